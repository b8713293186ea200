/- Small helpers of the later texts: memory that only grows, strings of bytes. More small helpers: rows that stay. One record appended to a slice of the call's own. octet: Put. cloakroomref02: Put. Many cells that a call leaves as they were. -/
import Derived.Test.YtodbgjnccngljaaGreatDoorJ8
import Derived.Test.YtodbgjnccngljaaGreatDoorJ4
import Derived.Laws.IdiomStrings
namespace Go.Proofs.YtodbgjnccngljaaGreatDoor
open Go Go.RowKit Go.Deep
theorem below_alloc {w wr : World} (h : Below w.heap.size w wr) (o : Obj) : Below w.heap.size w (wr.alloc o) := h.alloc h.size o
theorem below_chain {w w1 w2 : World} (h : Below w1.heap.size w1 w2) (h1 : Below w.heap.size w w1) : Below w.heap.size w w2 := below_call h1 h1.size h
theorem bcell {W w1 : World} (hb : Below W.heap.size W w1) : (∀ b o, b < W.heap.size → w1.cell? ⟨b, o, none⟩ = W.cell? ⟨b, o, none⟩) ∧ (∀ b o, b < W.heap.size → w1.frozen? ⟨b, o, none⟩ = W.frozen? ⟨b, o, none⟩) :=
 ⟨fun b o h => hb.cell (p := ⟨b, o, none⟩) h, fun b o h => hb.frozen (p := ⟨b, o, none⟩) h⟩
theorem hold2 {w0 W w1 : World} {a1 a2 : Addr} {v1 v2 : Value} (h : Below w0.heap.size w0 W ∧ W.cell? a1 = some v1 ∧ W.cell? a2 = some v2) (hb : Below W.heap.size W w1) : Below w0.heap.size w0 w1 ∧ w1.cell? a1 = some v1 ∧ w1.cell? a2 = some v2 := by
 obtain ⟨h0, h1, h2⟩ := h
 exact ⟨below_chain hb h0, (hb.cell (block_lt_of_cell h1)).trans h1, (hb.cell (block_lt_of_cell h2)).trans h2⟩
theorem or_u64 (a b : Nat) (ha : a < 18446744073709551616) (hb : b < 18446744073709551616) : bits BinOp.or IntKind.u64 (a : Int) (b : Int) = ((a ||| b : Nat) : Int) := by
 have h : a ||| b < 2 ^ 64 := Nat.or_lt_two_pow (n := 64) ha hb
 have e1 : (BitVec.ofInt 64 (a : Int)).toNat = a := by rw [BitVec.toNat_ofInt]; omega
 have e2 : (BitVec.ofInt 64 (b : Int)).toNat = b := by rw [BitVec.toNat_ofInt]; omega
 unfold bits
 show IntKind.u64.wrap ((BitVec.ofInt 64 (a : Int) ||| BitVec.ofInt 64 (b : Int)).toNat : Int) = _
 rw [BitVec.toNat_or, e1, e2]
 simp [IntKind.wrap, IntKind.bits, IntKind.signed]; omega
theorem Reads.rec_at {α : Type} {w : World} {B m : Nat} {A : Option Addr} {l : List α} (cells : α → List Value) (hm : ∀ a, (cells a).length = m) (h : Reads w B m A l.length (l.flatMap cells)) {k : Nat} (hk : k < l.length) :
  ∃ ad, A = some ad ∧ ad.block < B ∧ ∀ j u, (cells l[k])[j]? = some u → w.cell? ((ad.add (k * m)).add j) = some u := by
 obtain ⟨ad, rfl, hb, hc⟩ := h.2 (by omega)
 refine ⟨ad, rfl, hb, fun j u hu => ?_⟩
 have hj : j < m := by
  have := (List.getElem?_eq_some_iff.1 hu).1
  rwa [hm] at this
 rw [add_of_add]
 refine hc _ _ ?_
 rw [flat_at cells m hm l k j _ (List.getElem?_eq_getElem hk) hj, hu]
theorem conv_one (n : Nat) (w : World) : (convert 82 9 (.slice (some ⟨w.heap.size, 0, none⟩) 1 1)).run Tryz.prog (w.alloc (.cells #[.int .u8 ((n : Int) % 256)] 5)) = .ok (.string ⟨#[UInt8.ofNat n]⟩) (w.alloc (.cells #[.int .u8 ((n : Int) % 256)] 5)) :=
 run_convert_bytes_back (P := Tryz.prog) _ 82 9 5 ⟨w.heap.size, 0, none⟩ 1 [UInt8.ofNat n] Tryz.underlying82 Tryz.underlying5 Tryz.underlying9 (fun i hi => by
  obtain rfl : i = 0 := by simpa using hi
  rw [show (⟨w.heap.size, 0, none⟩ : Addr).add 0 = ⟨w.heap.size, 0, none⟩ from rfl, (Blk.new w 5 _).cell 0]
  simp)
theorem str_append (a b : List UInt8) : (⟨a.toArray⟩ : ByteArray) ++ ⟨b.toArray⟩ = ⟨(a ++ b).toArray⟩ := by
 apply ByteArray.ext; simp
theorem rowIs_below {w w' : World} {B g n : Nat} {t : TypeId} {f : Nat → Value} (h : w.rowIs g t n f) (hb : Below B w w') (hg : g < B) : w'.rowIs g t n f := h.of_block (hb.block g hg)
theorem rowIs_call {w w' : World} {g n : Nat} {t : TypeId} {f : Nat → Value} (h : w.rowIs g t n f) (hb : Below w.heap.size w w') : w'.rowIs g t n f := h.of_block (hb.block g h.lt)
theorem Blk.call {w w' : World} {g : Nat} {t : TypeId} {cs : Array Value} (h : Blk w g t cs) (hb : Below w.heap.size w w') : Blk w' g t cs := h.below hb h.lt
theorem lits_read (w : World) (B m n : Nat) (t : TypeId) (xs : List Value) (hl : xs.length = n * m) (hB : w.heap.size < B) : Reads (w.alloc (.cells xs.toArray t)) B m (some ⟨w.heap.size, 0, none⟩) n xs := by
 refine ⟨hl, fun _ => ⟨_, rfl, hB, fun j u hu => ?_⟩⟩
 have e : (⟨w.heap.size, 0, none⟩ : Addr).add j = ⟨w.heap.size, j, none⟩ := by unfold Addr.add; split <;> simp_all
 rw [e, (Blk.new w t xs.toArray).cell j]
 simpa using hu
def InB (A : Option Addr) (b : Nat) : Prop := ∃ a, A = some a ∧ a.block = b
def OwnA {α : Type} (cells : α → List Value) (m : Nat) (e : TypeId) (w : World) (base : Nat) (A : Option Addr) (c : Nat) (l : List α) : Prop := w.ownsRow base e m (.slice A l.length c) l.length (l.flatMap cells)
section
variable {α : Type} {cells : α → List Value} {m : Nat} {e : TypeId} {w w' : World} {base : Nat} {A : Option Addr} {c : Nat} {l : List α}
theorem OwnA.nil (w : World) (base : Nat) : OwnA cells m e w base none 0 ([] : List α) := World.ownsRow_nil _ _ _ _
theorem OwnA.reads (h : OwnA cells m e w base A c l) : Reads w w.heap.size m A l.length (l.flatMap cells) := Reads.of_own h
theorem OwnA.own_block (h : OwnA cells m e w base A c l) : ∀ k, (Value.slice A l.length c).ownBlock = some k ↔ InB A k := by
 intro k
 rcases h.2 with ⟨h1, _⟩ | ⟨g, cap, cur, h1, _⟩
 · simp only [Value.slice.injEq] at h1; obtain ⟨rfl, _⟩ := h1; simp [Value.ownBlock, InB]
 · simp only [Value.slice.injEq] at h1; obtain ⟨rfl, _⟩ := h1; simp [Value.ownBlock, InB]
theorem OwnA.block (h : OwnA cells m e w base A c l) {b : Nat} (hb : InB A b) : base ≤ b ∧ b < w.heap.size := by
 obtain ⟨a, rfl, rfl⟩ := hb
 rcases h.2 with ⟨h1, _⟩ | ⟨g, cap, cur, h1, hg, hh, _⟩
 · simp at h1
 · simp only [Value.slice.injEq, Option.some.injEq] at h1; obtain ⟨rfl, _⟩ := h1; exact ⟨hg, (Array.getElem?_eq_some_iff.1 hh).1⟩
theorem OwnA.stay (h : OwnA cells m e w base A c l) (hk : ∀ b, InB A b → w'.heap[b]? = w.heap[b]?) : OwnA cells m e w' base A c l := by
 refine ⟨h.1, ?_⟩
 rcases h.2 with h0 | ⟨g, cap, cur, hv, hg, hh, hr⟩
 · exact .inl h0
 ·
  refine .inr ⟨g, cap, cur, hv, hg, ?_, hr⟩
  simp only [Value.slice.injEq] at hv
  rw [hk g ⟨_, hv.1, rfl⟩, hh]
theorem OwnA.alloc (h : OwnA cells m e w base A c l) (o : Obj) : OwnA cells m e (w.alloc o) base A c l := h.stay fun b hb => Below.heap_alloc w o b (h.block hb).2
theorem OwnA.call (h : OwnA cells m e w base A c l) (hb : Below w.heap.size w w') : OwnA cells m e w' base A c l := h.stay fun b hb' => hb.block b (h.block hb').2
theorem OwnA.chg {F : Nat → Prop} (h : OwnA cells m e w base A c l) (k : Chg F w w') (hF : ∀ b, InB A b → ¬ F b) : OwnA cells m e w' base A c l := h.stay fun b hb => k.block (h.block hb).2 (hF b hb)
theorem OwnA.far (h : OwnA cells m e w base A c l) {p : Addr} (hp : ¬ InB A p.block) (u : Value) : OwnA cells m e (w.setCell p u) base A c l := h.stay fun b hb => Below.heap_setCell w p u b (by rintro rfl; exact hp hb)
theorem OwnA.drew (h : OwnA cells m e w base A c l) : OwnA cells m e w.drew base A c l := h
structure Pushed (w w' : World) (A A' : Option Addr) : Prop where
 chg : Chg (InB A) w w'
 new : ∀ b, InB A' b → InB A b ∨ w.heap.size ≤ b
theorem Pushed.below {w0 : World} {A' : Option Addr} (h : Pushed w w' A A') {B : Nat} (hb : Below B w0 w) (hB : B ≤ w.heap.size) (hA : ∀ b, InB A b → B ≤ b) : Below B w0 w' := below_chg hb h.chg (fun b hb' hF => by have := hA b hF; omega) hB
end
theorem wpList_push {P : Program} {W : World} {e : TypeId} {cs : Array Value} {α : Type} (cells : α → List Value) (m : Nat) (hm : ∀ a, (cells a).length = m) (h1 : ∀ a, ∀ u ∈ cells a, u.oneCell' = true) (hm0 : 0 < m)
  (t : TypeId) (i : TypeInfo) (z : Value) (bytes : Nat) (ht : P.underlying t = some (.slice e)) (hi : P.info? e = some i) (hz : i.zero = some z) (hsize : i.size = m) (hby : i.bytes = bytes) (hzs : z.cells.size = m) (hbb : bytes ≤ 1000)
  {ops : Array Oper} {rest : List Oper} {o : Oper} {a : Act} {Q : Exit → Act → World → Prop} (hgd : o.guard = none) (s x : Operand)
  (ho : o.op = .call { callee := .builtin .append, args := #[s, x], argTypes := #[t, t] })
  (base : Nat) (A : Option Addr) (c : Nat) (l : List α) (v : α) (n : Nat) (hn : l.length = n) (hs : a.eval s = .slice A n c) (hown : OwnA cells m e W base A c l) (g : Nat) (hg : g = W.heap.size) (hcs : (cells v).toArray = cs)
  (hx : a.eval x = .slice (some ⟨g, 0, none⟩) 1 1) (hl : l.length ≤ 1000000) (hbase : base ≤ W.heap.size)
  (h : ∀ A' c' w', OwnA cells m e w' base A' c' (l ++ [v]) → Pushed W w' A A' → wpList P ops Q rest (a.put o.dst (.slice A' (n + 1) c')) w') : wpList P ops Q (o :: rest) a (W.alloc (.cells cs e)) := by
 subst hg hcs hn
 refine wpList_append_sl _ hgd s x t ho base e i z m bytes ht hi hz hsize hby hzs hm0 (.slice A l.length c) l.length (l.flatMap cells) hs (hown.alloc _) (W.heap.size + 1) (some ⟨W.heap.size, 0, none⟩) 1 1 (cells v) hx
  (lits_read W _ m 1 e (cells v) (by rw [hm]; omega) (by omega)) (h1 v) (by unfold maxLen; omega) ?_ (by simp; omega) ?_
 ·
  have : (l.length + 1) * bytes ≤ 1000001 * 1000 := Nat.mul_le_mul (by omega) hbb
  omega
 ·
  intro A' c' w' hown' hg' hat
  have hA : ∀ k, (Value.slice A l.length c).ownBlock = some k ↔ InB A k := hown.own_block
  have hO : OwnA cells m e w' base A' c' (l ++ [v]) := by
   unfold OwnA
   rw [List.length_append, List.flatMap_append]
   simpa using hown'
  refine h A' c' w' hO ⟨?_, ?_⟩
  · exact ((Chg.refl _ W).alloc _).grown hg' (fun k hk _ => (hA k).1 hk)
  ·
   intro b hb
   have e1 : (Value.slice A' (l.length + 1) c').ownBlock = some b := by
    have := (hO.own_block b).2 hb
    simpa [Value.ownBlock] using this
   rcases hat with h2 | h2
   ·
    rw [h2] at e1
    exact .inl ((hA b).1 e1)
   ·
    rw [h2] at e1
    simp at e1
    exact .inr (by omega)
abbrev icell (n : Int) : List Value := [.int .i64 n]
abbrev OwnI (w : World) (base : Nat) (A : Option Addr) (c : Nat) (l : List Int) : Prop := OwnA icell 1 3 w base A c l
def octAt (m k i : Nat) : UInt8 := UInt8.ofNat (m / 2 ^ (8 * (k - 1 - i)))
def octB (m k : Nat) : List UInt8 := (List.range k).map (octAt m k)
def octF (m k j : Nat) : Nat → Value := fun i => if i < j then .int .u8 (octAt m k i).toNat else .int .u8 0
theorem info_u8 : (Tryz.prog.info? 5).map (fun i => (i.zero, i.size, i.bytes)) = some (some (.int .u8 0), 1, 1) := by kernel_rfl
set_option maxHeartbeats 1000000 in
theorem oct_put (m k : Nat) (w : World) (h1 : 1 ≤ k) (h8 : k ≤ 8) : Calls Tryz.prog 90 #[.int .u64 m, .int .i64 k] w fun e w' => e = .returned (.string ⟨(octB m k).toArray⟩) ∧ Below w.heap.size w w' := by
 have hmk := run_make_row' (P := Tryz.prog) 82 5 (.int .u8 0) 1 Tryz.underlying82 info_u8 rfl .i64 .i64 k (by omega) (by omega)
 go_enter Tryz.func90, Tryz.ntmps90
 go_wp2_with fail
 clear hmk
 go_loopw [17] (fun i wr => ∃ j : Nat, j ≤ k ∧ i = .int .i64 (j : Nat) ∧ wr.rowIs w.heap.size 5 k (octF m k j) ∧ Below w.heap.size w wr) (fun i _ => k - (intOf i).toNat)
 case atStart => exact ⟨0, by omega, rfl, (World.rowIs_made w (.int .u8 0) k 5).congr (fun i hi => by simp [octF]), (Below.refl _ _).alloc (Nat.le_refl _) _⟩
 case round =>
  obtain ⟨j, hj, rfl, hr, hb⟩ := hrel
  by_cases hlt : j < k
  ·
   have hlti : (j : Int) < (k : Int) := by omega
   have r1 := hr.cell (i := j) hlt
   have q1 := hr.frozen j
   simp [octF] at r1
   have e1 : (k : Int) - 1 - (j : Int) = ((k - 1 - j : Nat) : Int) := by omega
   go_wp2_with fail
   go_roundw
   case rel =>
    refine ⟨j + 1, by omega, by go_num, (hr.set j _).congr fun i hi => ?_, hb.setCell (Nat.le_refl _) _⟩
    by_cases e : i = j
    ·
     subst e
     simp only [if_true, octF, if_pos (Nat.lt_succ_self _)]
     simp [octAt]
    ·
     simp only [if_neg e, octF]
     by_cases e2 : i < j
     · rw [if_pos e2, if_pos (by omega)]
     · rw [if_neg e2, if_neg (by omega)]
   case measure => simp [intOf]; omega
  ·
   obtain rfl : j = k := by omega
   have hlti : ¬ (j : Int) < (j : Int) := by omega
   have hlen : (octB m j).length = j := by simp [octB]
   have hcv := run_convert_bytes_back (P := Tryz.prog) wr 82 9 5 ⟨w.heap.size, 0, none⟩ j (octB m j) Tryz.underlying82 Tryz.underlying5 Tryz.underlying9 (fun i hi => by
    have hi' : i < j := by omega
    have e : (⟨w.heap.size, 0, none⟩ : Addr).add i = ⟨w.heap.size, i, none⟩ := by unfold Addr.add; split <;> simp_all
    rw [e, hr.cell hi']
    simp [octF, hi', octB])
   rw [hlen] at hcv
   go_wp2_with fail
   go_ret
   exact ⟨rfl, hb⟩
theorem octB_succ (m i : Nat) : octB m (i + 1) = UInt8.ofNat (m / 256 ^ i) :: octB m i := by
 unfold octB
 rw [List.range_succ_eq_map, List.map_cons, List.map_map]
 have hp : (256 : Nat) ^ i = 2 ^ (8 * i) := by rw [Nat.pow_mul]
 congr 1
 · unfold octAt; rw [hp]; rfl
 ·
  refine List.map_congr_left fun j hj => ?_
  have : j < i := List.mem_range.1 hj
  unfold octAt
  simp only [Function.comp]
  rw [show i + 1 - 1 - j.succ = i - 1 - j by omega]
set_option maxHeartbeats 1000000 in
set_option maxRecDepth 100000 in
theorem refoct_put (m k : Nat) (w : World) (hm : m < 18446744073709551616) (h8 : k ≤ 8) : Calls Tryz.prog 63 #[.int .u64 m, .int .i64 k] w fun e w' => e = .returned (.string ⟨(octB m k).toArray⟩) ∧ Below w.heap.size w w' := by
 have hcv := conv_one
 go_enter Tryz.func63, Tryz.ntmps63
 go_wp2_with fail
 go_loopw [0, 5, 6] (fun n s i wr => ∃ j : Nat, j ≤ k ∧ i = .int .i64 (j : Nat) ∧ n = .int .u64 ((m / 256 ^ j : Nat) : Int) ∧ s = .string ⟨(octB m j).toArray⟩ ∧ Below w.heap.size w wr) (fun _ _ i _ => k - (intOf i).toNat)
 case atStart => exact ⟨0, by omega, rfl, by simp, rfl, Below.refl _ _⟩
 case round =>
  obtain ⟨j, hj, rfl, rfl, rfl, hb⟩ := hrel
  by_cases hlt : j < k
  ·
   have hlti : (j : Int) < (k : Int) := by omega
   have hk8 : (k : Int) ≤ 8 := by omega
   have hs := octB_succ m j
   have hn : m / 256 ^ (j + 1) = m / 256 ^ j / 256 := by rw [Nat.pow_succ, Nat.div_div_eq_div_mul]
   obtain ⟨n, hne⟩ : ∃ n, m / 256 ^ j = n := ⟨_, rfl⟩
   have hnb : n < 18446744073709551616 := by rw [← hne]; exact Nat.lt_of_le_of_lt (Nat.div_le_self _ _) hm
   rw [hne] at hs hn ⊢
   replace hs := Lib.hid hs
   replace hn := Lib.hid hn
   replace hne := Lib.hid hne
   have hl : ¬ 9223372036854775807 < 1 + (octB m j).length := by simp [octB]; omega
   go_wp2_with fail
   go_roundw
   case rel => exact ⟨j + 1, by omega, by go_num, by rw [hn.out]; rfl, by rw [hs.out, ← List.singleton_append, ← str_append]; rfl, (by repeat (first | exact Below.refl _ _ | assumption | refine below_alloc ?_ _ | refine below_chain (by assumption) ?_ | refine below_call2 (by assumption) ?_ (by first | omega | (simp; done) | (simp; omega) | (simp [World.setCell]; omega)) | refine below_drewN ?_ _ | refine Below.drew ?_ | refine Below.alloc ?_ (by first | omega | (simp; done) | (simp; omega) | (simp [World.setCell]; omega)) _ | refine Below.setCell ?_ (by first | omega | (simp; done) | (simp; omega) | (simp [World.setCell]; omega)) _))⟩
   case measure => simp [intOf]; omega
  ·
   obtain rfl : j = k := by omega
   have hlti : ¬ (j : Int) < (j : Int) := by omega
   have hk8 : (j : Int) ≤ 8 := by omega
   go_wp2_with fail
   go_ret
   exact ⟨rfl, hb⟩
end Go.Proofs.YtodbgjnccngljaaGreatDoor
