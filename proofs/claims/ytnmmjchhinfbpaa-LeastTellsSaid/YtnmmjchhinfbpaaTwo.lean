/- backends; two and its reference: Draw. the reference's Draw; the closure that is the better one of two; folds. two: better, fold. two: Best, Pick. two: Pick; the reference's Pick of the least loaded one. the reference's Best and Pick. -/
import Derived.Test.YtnmmjchhinfbpaaLoadE
import Derived.Test.YtnmmjchhinfbpaaNum
import Derived.Deep.RegionHeld3
namespace Go.Proofs.Ytnmmjchhinfbpaa
open Go Go.RowKit Go.Deep

theorem hdrew (w : World) : w.drew.heap = w.heap := rfl
theorem blk6_facts {w1 W w4 : World} {g : Nat} {t : TypeId} {c0 c1 c2 c3 c4 c5 : Value} (h : Blk w1 g t #[c0, c1, c2, c3, c4, c5]) (hW : W.heap = w1.heap) (hb : Below W.heap.size W w4) :
    (w4.cell? ⟨g, 0, none⟩ = some c0 ∧ w4.cell? ⟨g, 1, none⟩ = some c1 ∧ w4.cell? ⟨g, 2, none⟩ = some c2 ∧ w4.cell? ⟨g, 3, none⟩ = some c3 ∧ w4.cell? ⟨g, 4, none⟩ = some c4 ∧ w4.cell? ⟨g, 5, none⟩ = some c5) ∧
      w4.frozen? ⟨g, 0, none⟩ = false ∧ w4.frozen? ⟨g, 1, none⟩ = false ∧ w4.frozen? ⟨g, 2, none⟩ = false ∧ w4.frozen? ⟨g, 3, none⟩ = false ∧ w4.frozen? ⟨g, 4, none⟩ = false ∧ w4.frozen? ⟨g, 5, none⟩ = false := by
  have h2 : Blk W g t #[c0, c1, c2, c3, c4, c5] := by unfold Blk at h ⊢; rw [hW]; exact h
  have h3 := h2.call hb
  exact ⟨⟨h3.cell 0, h3.cell 1, h3.cell 2, h3.cell 3, h3.cell 4, h3.cell 5⟩, h3.frozen 0, h3.frozen 1, h3.frozen 2, h3.frozen 3, h3.frozen 4, h3.frozen 5⟩
theorem elem6_facts {w1 : World} {s v0 v1 v2 v3 v4 v5 : Value} {x a0 a1 a2 a3 a4 a5 : Addr} (hs : w1.cell? x = some s)
    (h0 : w1.cell? a0 = some v0) (h1 : w1.cell? a1 = some v1) (h2 : w1.cell? a2 = some v2) (h3 : w1.cell? a3 = some v3) (h4 : w1.cell? a4 = some v4) (h5 : w1.cell? a5 = some v5) (W w4 : World) (hW : W.heap = w1.heap) (hb : Below W.heap.size W w4) :
    w4.cell? x = some s ∧ w4.cell? a0 = some v0 ∧ w4.cell? a1 = some v1 ∧ w4.cell? a2 = some v2 ∧ w4.cell? a3 = some v3 ∧ w4.cell? a4 = some v4 ∧ w4.cell? a5 = some v5 := by
  have key : ∀ {a : Addr} {v : Value}, w1.cell? a = some v → w4.cell? a = some v := fun {a v} h => by
    have hl := block_lt_of_cell h
    rw [World.cell?_of_block (w := w1) (w' := w4) (a := a) (by rw [hb.block a.block (by rw [hW]; exact hl), hW])]
    exact h
  exact ⟨key hs, key h0, key h1, key h2, key h3, key h4, key h5⟩theorem below_drw {w w1 : World} {B : Nat} (h : Below B w w1) : Below B w w1.drew := h.drew
theorem set6 {w w1 : World} {B g : Nat} {a0 a1 a2 a3 a4 a5 : Value} (h : Below B w w1) (hg : B ≤ g) :
    Below B w ((((((w1.setCell ⟨g, 0, none⟩ a0).setCell ⟨g, 1, none⟩ a1).setCell ⟨g, 2, none⟩ a2).setCell ⟨g, 3, none⟩ a3).setCell ⟨g, 4, none⟩ a4).setCell ⟨g, 5, none⟩ a5) :=
  (((((h.setCell (p := ⟨g, 0, none⟩) hg _).setCell (p := ⟨g, 1, none⟩) hg _).setCell (p := ⟨g, 2, none⟩) hg _).setCell (p := ⟨g, 3, none⟩) hg _).setCell (p := ⟨g, 4, none⟩) hg _).setCell (p := ⟨g, 5, none⟩) hg _
structure Bk where
  id : Int
  w : Int
  st : Int
  v : Bool
  hi : Int
  lo : Int
abbrev Bk.cells (b : Bk) : List Value := [.int .i64 b.id, .int .i64 b.w, .int .i64 b.st, .bool b.v, .int .u64 b.hi, .int .u64 b.lo]
abbrev Bk.val (b : Bk) : Value := .agg #[.int .i64 b.id, .int .i64 b.w, .int .i64 b.st, .bool b.v, .int .u64 b.hi, .int .u64 b.lo]
def bk0 : Bk := ⟨0, 0, 0, false, 0, 0⟩
theorem bk_at {w : World} {B : Nat} {A : Option Addr} {l : List Bk} (h : Reads w B 6 A l.length (l.flatMap Bk.cells)) {k : Nat} (hk : k < l.length) :
    ∃ ad b, A = some ad ∧ ad.block < B ∧ l[k]? = some b ∧ w.cell? (ad.add (k * 6)) = some (.int .i64 b.id) ∧ w.cell? ⟨(ad.add (k * 6)).block, (ad.add (k * 6)).off + 1, none⟩ = some (.int .i64 b.w) ∧
      w.cell? ⟨(ad.add (k * 6)).block, (ad.add (k * 6)).off + 2, none⟩ = some (.int .i64 b.st) ∧ w.cell? ⟨(ad.add (k * 6)).block, (ad.add (k * 6)).off + 3, none⟩ = some (.bool b.v) ∧
      w.cell? ⟨(ad.add (k * 6)).block, (ad.add (k * 6)).off + 4, none⟩ = some (.int .u64 b.hi) ∧ w.cell? ⟨(ad.add (k * 6)).block, (ad.add (k * 6)).off + 5, none⟩ = some (.int .u64 b.lo) := by
  obtain ⟨ad, rfl, hb, hc⟩ := h.rec_at Bk.cells (fun _ => rfl) hk
  exact ⟨ad, l[k], rfl, hb, List.getElem?_eq_getElem hk, hc 0 _ rfl, hc 1 _ rfl, hc 2 _ rfl, hc 3 _ rfl, hc 4 _ rfl, hc 5 _ rfl⟩

def drawB (l : List Bk) (x : Nat) : Bk := if l.length = 0 then bk0 else l.getD (scaleI x l.length).toNat bk0
def drawOk (l : List Bk) : Bool := decide (l.length ≠ 0)
theorem scale_nat (x n : Nat) (hx : x < 18446744073709551616) (h1 : 1 ≤ n) (h2 : n ≤ 2147483648) : ∃ k : Nat, scaleI x n = (k : Int) ∧ k < n := by
  refine ⟨(x * n / 18446744073709551616 : Nat), ?_, scale_lt x n hx h1⟩
  unfold scaleI
  rw [if_neg (by omega)]
  simp

end Go.Proofs.Ytnmmjchhinfbpaa

namespace Go.Proofs.Ytnmmjchhinfbpaa
open Go Go.RowKit Go.Deep

theorem still_of {P : Program} {f : FuncId} {args : Array Value} {w : World} {v : Value} (h : Calls P f args w fun e w' => e = .returned v ∧ w = w') : Calls P f args w fun e w'' => e = .returned v ∧ w'' = w := h.mono fun _ _ ⟨h1, h2⟩ => ⟨h1, h2.symm⟩
def betterB (M : LM) (a b : Bk) : Bk := if lessB (lmGet M b.id) b.w b.id (lmGet M a.id) a.w a.id then b else a
def bkWf (b : Bk) : Prop := (Lit.int .i64 b.id).wf = true
end Go.Proofs.Ytnmmjchhinfbpaa

namespace Go.Proofs.Ytnmmjchhinfbpaa
open Go Go.RowKit Go.Deep

def foldB (M : LM) (l : List Bk) : Bk := match l with | [] => bk0 | x :: r => r.foldl (betterB M) x
theorem foldB_one (M : LM) (x : Bk) : foldB M [x] = x := rfl
theorem foldB_snoc (M : LM) (l : List Bk) (y : Bk) (h : l ≠ []) : foldB M (l ++ [y]) = betterB M (foldB M l) y := by
  cases l with
  | nil => exact absurd rfl h
  | cons x r => simp [foldB, List.foldl_append]

theorem blk_set6 {w : World} {g : Nat} {t : TypeId} {c0 c1 c2 c3 c4 c5 a0 a1 a2 a3 a4 a5 : Value} (h : Blk w g t #[c0, c1, c2, c3, c4, c5]) :
    Blk ((((((w.setCell ⟨g, 0, none⟩ a0).setCell ⟨g, 1, none⟩ a1).setCell ⟨g, 2, none⟩ a2).setCell ⟨g, 3, none⟩ a3).setCell ⟨g, 4, none⟩ a4).setCell ⟨g, 5, none⟩ a5) g t #[a0, a1, a2, a3, a4, a5] := by
  simpa using (((((h.set_ 0 a0).set_ 1 a1).set_ 2 a2).set_ 3 a3).set_ 4 a4).set_ 5 a5
theorem blk_far6 {w : World} {g g' : Nat} {t : TypeId} {cs : Array Value} {a0 a1 a2 a3 a4 a5 : Value} (h : Blk w g' t cs) (hne : g' ≠ g) :
    Blk ((((((w.setCell ⟨g, 0, none⟩ a0).setCell ⟨g, 1, none⟩ a1).setCell ⟨g, 2, none⟩ a2).setCell ⟨g, 3, none⟩ a3).setCell ⟨g, 4, none⟩ a4).setCell ⟨g, 5, none⟩ a5) g' t cs :=
  (((((h.far (p := ⟨g, 0, none⟩) hne a0).far (p := ⟨g, 1, none⟩) hne a1).far (p := ⟨g, 2, none⟩) hne a2).far (p := ⟨g, 3, none⟩) hne a3).far (p := ⟨g, 4, none⟩) hne a4).far (p := ⟨g, 5, none⟩) hne a5
theorem Blk.six {w : World} {g : Nat} {t : TypeId} {c0 c1 c2 c3 c4 c5 : Value} (h : Blk w g t #[c0, c1, c2, c3, c4, c5]) :
    (w.cell? ⟨g, 0, none⟩ = some c0 ∧ w.cell? ⟨g, 1, none⟩ = some c1 ∧ w.cell? ⟨g, 2, none⟩ = some c2 ∧ w.cell? ⟨g, 3, none⟩ = some c3 ∧ w.cell? ⟨g, 4, none⟩ = some c4 ∧ w.cell? ⟨g, 5, none⟩ = some c5) ∧
      w.frozen? ⟨g, 0, none⟩ = false ∧ w.frozen? ⟨g, 1, none⟩ = false ∧ w.frozen? ⟨g, 2, none⟩ = false ∧ w.frozen? ⟨g, 3, none⟩ = false ∧ w.frozen? ⟨g, 4, none⟩ = false ∧ w.frozen? ⟨g, 5, none⟩ = false :=
  ⟨⟨h.cell 0, h.cell 1, h.cell 2, h.cell 3, h.cell 4, h.cell 5⟩, h.frozen 0, h.frozen 1, h.frozen 2, h.frozen 3, h.frozen 4, h.frozen 5⟩
abbrev Bk.arr (b : Bk) : Array Value := #[.int .i64 b.id, .int .i64 b.w, .int .i64 b.st, .bool b.v, .int .u64 b.hi, .int .u64 b.lo]
theorem foldB_take (M : LM) (l : List Bk) (k : Nat) (x : Bk) (h : l[k]? = some x) : foldB M (l.take (k + 1)) = if k = 0 then x else betterB M (foldB M (l.take k)) x := by
  obtain ⟨hk, rfl⟩ := List.getElem?_eq_some_iff.1 h
  rw [List.take_succ_eq_append_getElem hk]
  by_cases h0 : k = 0
  · subst h0; simp [foldB]
  · rw [if_neg h0, foldB_snoc]
    intro e
    have := congrArg List.length e
    rw [List.length_take, List.length_nil] at this
    omega
theorem betterB_wf {M : LM} {a b : Bk} (ha : bkWf a) (hb : bkWf b) : bkWf (betterB M a b) := by
  unfold betterB; split <;> assumption
theorem foldB_wf {M : LM} {l : List Bk} (h : ∀ x ∈ l, bkWf x) : bkWf (foldB M l) := by
  cases l with
  | nil => show bkWf bk0; unfold bkWf; decide
  | cons x r =>
    have key : ∀ (r : List Bk) (x : Bk), bkWf x → (∀ y ∈ r, bkWf y) → bkWf (r.foldl (betterB M) x) := by
      intro r
      induction r with
      | nil => intro x hx _; exact hx
      | cons y r ih => intro x hx hr; exact ih _ (betterB_wf hx (hr y (by simp))) fun z hz => hr z (by simp [hz])
    exact key r x (h x (by simp)) fun y hy => h y (by simp [hy])

end Go.Proofs.Ytnmmjchhinfbpaa

namespace Go.Proofs.Ytnmmjchhinfbpaa
open Go Go.RowKit Go.Deep

theorem info_bk : (Try.prog.info? 46).map (fun i => (i.zero, i.size, i.bytes)) = some (some (.agg #[.int .i64 0, .int .i64 0, .int .i64 0, .bool false, .int .u64 0, .int .u64 0]), 6, 48) := by kernel_rfl
abbrev OwnB (w : World) (base : Nat) (A : Option Addr) (c : Nat) (l : List Bk) : Prop := OwnA Bk.cells 6 46 w base A c l
theorem wpList_push_bk {W : World} {cs : Array Value} {ops : Array Oper} {rest : List Oper} {o : Oper} {a : Act} {Q : Exit → Act → World → Prop} (hgd : o.guard = none) (s x : Operand)
    (ho : o.op = .call { callee := .builtin .append, args := #[s, x], argTypes := #[22, 22] })
    (base : Nat) (A : Option Addr) (c : Nat) (l : List Bk) (v : Bk) (n : Nat) (hn : l.length = n) (hs : a.eval s = .slice A n c) (hown : OwnB W base A c l) (g : Nat) (hg : g = W.heap.size) (hcs : v.cells.toArray = cs)
    (hx : a.eval x = .slice (some ⟨g, 0, none⟩) 1 1) (hl : l.length ≤ 1000000) (hbase : base ≤ W.heap.size)
    (h : ∀ A' c' w', OwnB w' base A' c' (l ++ [v]) → Pushed W w' A A' → wpList Try.prog ops Q rest (a.put o.dst (.slice A' (n + 1) c')) w') : wpList Try.prog ops Q (o :: rest) a (W.alloc (.cells cs 46)) := by
  obtain ⟨i0, hi0, hz0, hz1, hz2⟩ := info_parts info_bk
  exact wpList_push Bk.cells 6 (fun _ => rfl) (fun b u hu => by
    simp at hu; rcases hu with rfl | rfl | rfl | rfl | rfl | rfl <;> rfl) (by omega) 22 i0 _ 48 Try.underlying22 hi0 hz0 hz1 hz2 rfl (by omega) hgd s x ho base A c l v n hn hs hown g hg hcs hx hl hbase h

def drawnL (l : List Bk) (ds : List Int) : List Bk := if l.length = 0 then [] else ds.map fun d => drawB l d.toNat
theorem drawnL_len (l : List Bk) (ds : List Int) : (drawnL l ds).length ≤ ds.length := by unfold drawnL; split <;> simp
theorem drawB_mem {l : List Bk} {x : Nat} (hx : x < 18446744073709551616) (h : l.length ≠ 0) (hl : l.length ≤ 1000000) : drawB l x ∈ l := by
  obtain ⟨k, hk, hkl⟩ := scale_nat x l.length hx (by omega) (by omega)
  unfold drawB
  rw [if_neg h, hk, Int.toNat_natCast, List.getD_eq_getElem?_getD, List.getElem?_eq_getElem hkl]
  exact List.getElem_mem hkl
theorem drawnL_succ (l : List Bk) (ds : List Int) (k : Nat) (hk : k < ds.length) : drawnL l (ds.take (k + 1)) = if l.length = 0 then [] else drawnL l (ds.take k) ++ [drawB l (ds.getD k 0).toNat] := by
  unfold drawnL
  rw [List.take_succ_eq_append_getElem hk, List.getD_eq_getElem?_getD, List.getElem?_eq_getElem hk]
  split
  · rfl
  · rw [List.map_append]; rfl
theorem Reads.intk_at {w : World} {B : Nat} {A : Option Addr} {xs : List Int} {k : IntKind} {i : Nat} (h : Reads w B 1 A xs.length (xs.map (.int k))) (hi : i < xs.length) : ∃ ad, A = some ad ∧ ad.block < B ∧ w.cell? (ad.add i) = some (.int k (xs.getD i 0)) := h.int_at hi

end Go.Proofs.Ytnmmjchhinfbpaa

namespace Go.Proofs.Ytnmmjchhinfbpaa
open Go Go.RowKit Go.Deep

set_option maxRecDepth 100000 in
set_option maxHeartbeats 4000000 in
theorem ref27_pick (l : List Bk) (A : Option Addr) (c g : Nat) (M : LM) (w : World) (hr : Reads w w.heap.size 6 A l.length (l.flatMap Bk.cells)) (hl : l.length ≤ 1000000) (h : RLoadAt w g M) (hM : M.length ≤ 1000000) :
    Calls Try.prog 21 #[.slice A l.length c, .pointer (some ⟨g, 0, none⟩)] w fun e w' => e = .returned (.tuple #[.int .i64 (foldB M l).id, .bool (decide (0 < l.length))]) ∧ ∃ n, w' = w.drewN n := by
  go_enter Try.func21, Try.ntmps21
  go_wp2_with fail
  go_loopw [6, 7] (fun t i wr => ∃ (k : Nat) (j : Int) (n : Nat), k ≤ l.length ∧ i = .int .i64 (k : Nat) ∧ t = .int .i64 j ∧ wr = w.drewN n ∧ ((k = 0 ∧ j = -1) ∨ ∃ q : Nat, j = (q : Int) ∧ q < k ∧ l[q]? = some (foldB M (l.take k)))) (fun _ i _ => l.length - (intOf i).toNat)
  case atStart => exact ⟨0, -1, 0, by omega, rfl, rfl, rfl, .inl ⟨rfl, rfl⟩⟩
  case round =>
    obtain ⟨k, j, n, hk, rfl, rfl, rfl, hJ⟩ := hrel
    by_cases hlt : k < l.length
    · have hlti : (k : Int) < (l.length : Int) := by omega
      have hrv : Reads (w.drewN n) (w.drewN n).heap.size 6 A l.length (l.flatMap Bk.cells) := hr
      have hv : RLoadAt (w.drewN n) g M := h
      obtain ⟨W, hW⟩ : ∃ W, w.drewN n = W := ⟨_, rfl⟩
      rw [hW] at hrv hv ⊢
      replace hW := Lib.hid hW
      obtain ⟨ad, x, rfl, hbl, hx, c0, c1, -⟩ := bk_at hrv hlt
      have hstep := foldB_take M l k x hx
      rcases hJ with ⟨rfl, rfl⟩ | ⟨q, rfl, hq, hqx⟩
      · rw [if_pos rfl] at hstep
        replace hstep := Lib.hid hstep
        replace hx := Lib.hid hx
        clear c0 c1 hr h hrv hv
        go_wp2_with fail
        go_quiet (fail)
        go_wp2_with fail
        go_roundw
        case rel => exact ⟨1, 0, _, by omega, rfl, rfl, by rw [← hW.out]; exact World.drewN_drewN _ _ _, .inr ⟨0, rfl, by omega, by rw [hstep.out]; exact hx.out⟩⟩
        case measure => simp [intOf]; omega
      · rw [if_neg (by omega)] at hstep
        obtain ⟨ad', y, had, hbl2, hy, d0, d1, -⟩ := bk_at hrv (k := q) (by omega)
        cases had
        rw [hqx] at hy
        have hfy : foldB M (l.take k) = y := by simpa using hy
        rw [hfy] at hstep hqx
        have G1 := fun n => Lib.hid (refload_get g M x.id (W.drewN n) hv hM)
        have G2 := fun n => Lib.hid (refload_get g M y.id (W.drewN n) hv hM)
        have L := fun W => refless_any (lmGet M x.id) x.w x.id (lmGet M y.id) y.w y.id W
        unfold betterB at hstep
        obtain ⟨o, ho⟩ : ∃ o, lessB (lmGet M x.id) x.w x.id (lmGet M y.id) y.w y.id = o := ⟨_, rfl⟩
        rw [ho] at hstep L
        replace G1 := Lib.hid G1
        replace G2 := Lib.hid G2
        replace L := Lib.hid L
        replace ho := Lib.hid ho
        have hqi : (q : Int) < (l.length : Int) := by omega
        have hq0 : decide ((q : Int) < 0) = false := by simp
        clear hy hfy hr h hrv hv
        cases o
        · rw [if_neg (by simp)] at hstep
          replace hstep := Lib.hid hstep
          replace hx := Lib.hid hx
          replace hqx := Lib.hid hqx
          go_wp2_with fail
          go_quiet ((first | (go_at_call 50; with_reducible exact Calls.quiet_of_same (still_of (G1.out _).out)) | (go_at_call 50; with_reducible exact Calls.quiet_of_same (still_of (G2.out _).out)) | (go_at_call 49; with_reducible exact Calls.quiet_of_same (still_of (L.out _)))))
          go_wp2_with fail
          go_roundw
          case rel => exact ⟨k + 1, q, _, by omega, by go_num, rfl, by rw [← hW.out]; exact World.drewN_drewN _ _ _, .inr ⟨q, rfl, by omega, by rw [hstep.out]; exact hqx.out⟩⟩
          case measure => simp [intOf]; omega
        · rw [if_pos rfl] at hstep
          replace hstep := Lib.hid hstep
          replace hx := Lib.hid hx
          replace hqx := Lib.hid hqx
          go_wp2_with fail
          go_quiet ((first | (go_at_call 50; with_reducible exact Calls.quiet_of_same (still_of (G1.out _).out)) | (go_at_call 50; with_reducible exact Calls.quiet_of_same (still_of (G2.out _).out)) | (go_at_call 49; with_reducible exact Calls.quiet_of_same (still_of (L.out _)))))
          go_wp2_with fail
          go_roundw
          case rel => exact ⟨k + 1, k, _, by omega, by go_num, rfl, by rw [← hW.out]; exact World.drewN_drewN _ _ _, .inr ⟨k, rfl, by omega, by rw [hstep.out]; exact hx.out⟩⟩
          case measure => simp [intOf]; omega
    · obtain rfl : k = l.length := by omega
      have hlti : ¬ (l.length : Int) < (l.length : Int) := by omega
      rw [List.take_length] at hJ
      rcases hJ with ⟨h0, rfl⟩ | ⟨q, rfl, hq, hqx⟩
      · obtain rfl : l = [] := List.eq_nil_of_length_eq_zero h0
        go_wp2_with fail
        go_ret2
        exact ⟨rfl, _, rfl⟩
      · obtain ⟨ad, y, rfl, hbl2, hy, d0, -⟩ := bk_at hr hq
        rw [hqx] at hy
        have hfy : foldB M l = y := by simpa using hy
        have hlo : decide (0 < l.length) = true := by simp; omega
        have hqi : (q : Int) < (l.length : Int) := by omega
        have hq0 : decide ((q : Int) < 0) = false := by simp
        replace hfy := Lib.hid hfy
        replace hlo := Lib.hid hlo
        clear hqx hy hr h
        go_wp2_with fail
        go_ret2
        exact ⟨by rw [hfy.out, hlo.out]; rfl, _, rfl⟩
end Go.Proofs.Ytnmmjchhinfbpaa

namespace Go.Proofs.Ytnmmjchhinfbpaa
open Go Go.RowKit Go.Deep

end Go.Proofs.Ytnmmjchhinfbpaa
