/- ring: the push of a point; the points of backends. -/
import Derived.Test.YtnmmjchhinfbpaaRingC
import Derived.Test.YtnmmjchhinfbpaaNum
import Derived.Test.YtnmmjchhinfbpaaTwoG
import Derived.Test.YtnmmjchhinfbpaaOct
import Derived.Deep.AppendLies
import Derived.Deep.RegionLaw
import Derived.Deep.CutRange
import Derived.Deep.CutBlock
import Derived.Deep.RegionHeld3
import Derived.Test.YtnmmjchhinfbpaaTwo
namespace Go.Proofs.Ytnmmjchhinfbpaa
open Go Go.RowKit Go.Deep

theorem step_push {P : Program} {W : World} {e : TypeId} {cs : Array Value} {α : Type} (cells : α → List Value) (m : Nat) (hm : ∀ a, (cells a).length = m) (h1 : ∀ a, ∀ u ∈ cells a, u.oneCell' = true) (hm0 : 0 < m)
    (t : TypeId) (i : TypeInfo) (z : Value) (bytes : Nat) (ht : P.underlying t = some (.slice e)) (hi : P.info? e = some i) (hz : i.zero = some z) (hsize : i.size = m) (hby : i.bytes = bytes) (hzs : z.cells.size = m) (hbb : bytes ≤ 1000)
    {ops : Array Oper} {o : Oper} {a : Act} {K : Act → World → Prop} {Q : Exit → Act → World → Prop} {E : Prop} (hgd : o.guard = none) (s x : Operand)
    (ho : o.op = .call { callee := .builtin .append, args := #[s, x], argTypes := #[t, t] })
    (base : Nat) (A : Option Addr) (c : Nat) (l : List α) (v : α) (n : Nat) (hn : l.length = n) (hs : a.eval s = .slice A n c) (hown : OwnA cells m e W base A c l) (g : Nat) (hg : g = W.heap.size) (hcs : (cells v).toArray = cs)
    (hx : a.eval x = .slice (some ⟨g, 0, none⟩) 1 1) (hl : l.length ≤ 1000000) (hbase : base ≤ W.heap.size)
    (h : ∀ A' c' w', OwnA cells m e w' base A' c' (l ++ [v]) → Pushed W w' A A' → K (a.put o.dst (.slice A' (n + 1) c')) w') :
    if Region.wanted o (yielded ops a.tmps) = true then Oper.wp P o a (W.alloc (.cells cs e)) K Q else E := by
  subst hg hcs hn
  have hsz : (W.alloc (.cells (cells v).toArray e)).heap.size = W.heap.size + 1 := by simp
  have hb : (W.alloc (.cells (cells v).toArray e)).heap[W.heap.size]? = some (.cells (cells v).toArray e (0, 0)) := Blk.new W e (cells v).toArray
  refine step_append_lies _ hgd s x t ho base e i z m bytes ht hi hz hsize hby hzs hm0 (.slice A l.length c) l.length (l.flatMap cells) hs (hown.alloc _) ⟨W.heap.size, 0, none⟩ 1 1 (cells v) hx (by rw [hm]; omega) ?_ (h1 v) (by omega) (by unfold maxLen; omega) ?_ (by rw [hsz]; omega) (W.heap.size + 1) hsz ?_
  · intro j u hu
    exact World.news_of_block hb j u (by simpa using hu)
  · have : (l.length + 1) * bytes ≤ 1000001 * 1000 := Nat.mul_le_mul (by omega) hbb
    omega
  · intro g' cap w' hown' hg' hat hlt
    have hA : ∀ k, (Value.slice A l.length c).ownBlock = some k ↔ InB A k := hown.own_block
    have hO : OwnA cells m e w' base (some ⟨g', 0, none⟩) cap (l ++ [v]) := by
      unfold OwnA
      rw [List.length_append, List.flatMap_append]
      simpa using hown'
    refine h _ cap w' hO ⟨?_, ?_⟩
    · exact ((Chg.refl _ W).alloc _).grown hg' (fun k hk _ => (hA k).1 hk)
    · rintro b ⟨ad, e1, rfl⟩
      cases e1
      rcases hat with h2 | h2
      · exact .inl ((hA _).1 h2)
      · right
        show W.heap.size ≤ g'
        omega
theorem rand_u64 (a b : Nat) (ha : a < 18446744073709551616) (hb : b < 18446744073709551616) : bits BinOp.and IntKind.u64 (a : Int) (b : Int) = ((a &&& b : Nat) : Int) := by
  have e1 : (BitVec.ofInt 64 (a : Int)).toNat = a := by rw [BitVec.toNat_ofInt]; omega
  have e2 : (BitVec.ofInt 64 (b : Int)).toNat = b := by rw [BitVec.toNat_ofInt]; omega
  have hlt : a &&& b < 18446744073709551616 := Nat.lt_of_le_of_lt Nat.and_le_left ha
  unfold bits
  show IntKind.u64.wrap ((BitVec.ofInt 64 (a : Int) &&& BitVec.ofInt 64 (b : Int)).toNat : Int) = _
  rw [BitVec.toNat_and, e1, e2]
  simp [IntKind.wrap, IntKind.bits, IntKind.signed]
  omega
theorem ror_u64 (a b : Nat) (ha : a < 18446744073709551616) (hb : b < 18446744073709551616) : bits BinOp.or IntKind.u64 (a : Int) (b : Int) = ((a ||| b : Nat) : Int) := by
  have e1 : (BitVec.ofInt 64 (a : Int)).toNat = a := by rw [BitVec.toNat_ofInt]; omega
  have e2 : (BitVec.ofInt 64 (b : Int)).toNat = b := by rw [BitVec.toNat_ofInt]; omega
  have hlt : a ||| b < 2 ^ 64 := Nat.or_lt_two_pow (by omega) (by omega)
  unfold bits
  show IntKind.u64.wrap ((BitVec.ofInt 64 (a : Int) ||| BitVec.ofInt 64 (b : Int)).toNat : Int) = _
  rw [BitVec.toNat_or, e1, e2]
  simp [IntKind.wrap, IntKind.bits, IntKind.signed]
  omega
theorem id_j (id j : Nat) (hi : id ≤ 65535) (hj : j < 64) : bits BinOp.or IntKind.u64 (IntKind.u64.wrap (bits BinOp.and IntKind.u64 (id : Int) 65535 * 65536)) (j : Int) = ((id * 65536 + j : Nat) : Int) := by
  have h1 := rand_u64 id 65535 (by omega) (by omega)
  have h2 : id &&& 65535 = id := by
    rw [show (65535 : Nat) = 2 ^ 16 - 1 from rfl, Nat.and_two_pow_sub_one_eq_mod]
    omega
  rw [h2] at h1
  have e : (((65535 : Nat)) : Int) = 65535 := rfl
  rw [e] at h1
  rw [h1]
  have h3 : IntKind.u64.wrap ((id : Int) * 65536) = ((id * 65536 : Nat) : Int) := by
    simp [IntKind.wrap, IntKind.bits, IntKind.signed]
    omega
  rw [h3, ror_u64 _ _ (by omega) (by omega)]
  have h4 : id * 65536 ||| j = id * 65536 + j := by
    rw [show (65536 : Nat) = 2 ^ 16 from rfl, Nat.mul_comm]
    exact (Nat.two_pow_add_eq_or_of_lt (show j < 2 ^ 16 by omega) id).symm
  rw [h4]
theorem own_pt {w : World} {base c : Nat} {A : Option Addr} {l : List Pt} (h : OwnA pcell 2 84 w base A c l) {b : Nat} (hb : InB A b) : ∃ cs, Blk w b 84 cs := by
  obtain ⟨a, rfl, rfl⟩ := hb
  rcases h.2 with ⟨h1, _⟩ | ⟨g, cap, cur, h1, hg, hh, _⟩
  · simp at h1
  · simp only [Value.slice.injEq, Option.some.injEq] at h1
    obtain ⟨rfl, -⟩ := h1
    exact ⟨cur, hh⟩
theorem info_pt : (Try.prog.info? 84).map (fun i => (i.zero, i.size, i.bytes)) = some (some (.agg #[.int .i64 0, .int .u64 0]), 2, 16) := by kernel_rfl
def ptH (ka kb id : Int) (j : Nat) : Int := sipHash ka kb ⟨(octB (id.toNat * 65536 + j) 4).toArray⟩
def rowP (ka kb : Int) (b : Bk) (m : Nat) : List Pt := (List.range m).map fun j => (b.id, ptH ka kb b.id j)
def ptsOf (ka kb : Int) (l : List Bk) (m : Nat) : List Pt := l.flatMap fun b => rowP ka kb b m
theorem rowP_succ (ka kb : Int) (b : Bk) (j : Nat) : rowP ka kb b (j + 1) = rowP ka kb b j ++ [(b.id, ptH ka kb b.id j)] := by
  unfold rowP
  rw [List.range_succ, List.map_append]
  rfl
theorem rowP_len (ka kb : Int) (b : Bk) (m : Nat) : (rowP ka kb b m).length = m := by simp [rowP]
theorem ptsOf_succ (ka kb : Int) (l : List Bk) (m k : Nat) (b : Bk) (h : l[k]? = some b) : ptsOf ka kb (l.take (k + 1)) m = ptsOf ka kb (l.take k) m ++ rowP ka kb b m := by
  obtain ⟨hk, rfl⟩ := List.getElem?_eq_some_iff.1 h
  unfold ptsOf
  rw [List.take_succ_eq_append_getElem hk, List.flatMap_append]
  simp
theorem ptsOf_len (ka kb : Int) (m : Nat) : ∀ l : List Bk, (ptsOf ka kb l m).length = l.length * m
  | [] => by simp [ptsOf]
  | b :: l => by
    have ih := ptsOf_len ka kb m l
    unfold ptsOf at ih ⊢
    rw [List.flatMap_cons, List.length_append, ih, rowP_len, List.length_cons, Nat.add_mul, Nat.one_mul]
    omega
theorem ptsOf_rg (ka kb : Int) (m : Nat) (l : List Bk) : ∀ p ∈ ptsOf ka kb l m, 0 ≤ p.2 ∧ p.2 < 18446744073709551616 := by
  intro p hp
  unfold ptsOf rowP at hp
  obtain ⟨b, _, hp⟩ := List.mem_flatMap.1 hp
  obtain ⟨j, _, rfl⟩ := List.mem_map.1 hp
  obtain ⟨h, hh, hlt⟩ := sip_rng ka kb ⟨(octB (b.id.toNat * 65536 + j) 4).toArray⟩
  unfold ptH
  dsimp only
  rw [hh]
  omega
def ringE (each : Int) (n : Nat) : Int := if each < 1 ∨ 64 < each then 1 else if n = 0 then 8 else if 64 < n then 9 else 0
end Go.Proofs.Ytnmmjchhinfbpaa
