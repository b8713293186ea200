/- load and its reference: bears, Less. the reference's loads: Get, set. the reference's loads: set and Add come to the same list. -/
import Derived.Test.YtfpepgeaaadpdaaLoadB
import Derived.Test.YtfpepgeaaadpdaaNum
import Derived.Test.YtfpepgeaaadpdaaKit
namespace Go.Proofs.Ytfpepgeaaadpdaa
open Go Go.RowKit Go.Deep

def bearB (L W : Int) : Bool := decide (0 ≤ L) && decide (L ≤ 1099511627776) && decide (1 ≤ W) && decide (W ≤ 1000)
def lessB (L W i L2 W2 i2 : Int) : Bool := bearB L W && bearB L2 W2 && (decide (L * W2 < L2 * W) || (decide (L * W2 = L2 * W) && decide (i < i2)))
theorem bearB_t {L W : Int} (h : bearB L W = true) : 0 ≤ L ∧ L ≤ 1099511627776 ∧ 1 ≤ W ∧ W ≤ 1000 := by
  simp [bearB] at h; omega
theorem wrap64_id (n : Int) (h : -9223372036854775808 ≤ n ∧ n ≤ 9223372036854775807) : wrap64 n = n := by unfold wrap64; omega
theorem mul_rng {L W : Int} (h1 : 0 ≤ L) (h2 : L ≤ 1099511627776) (h3 : 1 ≤ W) (h4 : W ≤ 1000) : 0 ≤ L * W ∧ L * W ≤ 1099511627776000 := by
  refine ⟨Int.mul_nonneg h1 (by omega), ?_⟩
  have a : L * W ≤ 1099511627776 * W := Int.mul_le_mul_of_nonneg_right h2 (by omega)
  omega
end Go.Proofs.Ytfpepgeaaadpdaa

namespace Go.Proofs.Ytfpepgeaaadpdaa
open Go Go.RowKit Go.Deep

structure Two (w : World) (base : Nat) (A : Option Addr) (c : Nat) (L : List Int) (B : Option Addr) (d : Nat) (K : List Int) : Prop where
  fst : OwnI w base A c L
  snd : OwnI w base B d K
  apart : ∀ b, InB A b → ¬ InB B b
section
variable {w w' : World} {base : Nat} {A A' B B' : Option Addr} {c d c' d' : Nat} {L K : List Int} {v : Int}
theorem Two.push1 (h : Two w base A c L B d K) (ho : OwnI w' base A' c' (L ++ [v])) (hp : Pushed w w' A A') : Two w' base A' c' (L ++ [v]) B d K :=
  ⟨ho, h.snd.chg hp.chg fun b hb hA => h.apart b hA hb, fun b hb hB => by
    rcases hp.new b hb with h1 | h1
    · exact h.apart b h1 hB
    · have := (h.snd.block hB).2; omega⟩
theorem Two.push2 (h : Two w base A c L B d K) (ho : OwnI w' base B' d' (K ++ [v])) (hp : Pushed w w' B B') : Two w' base A c L B' d' (K ++ [v]) :=
  ⟨h.fst.chg hp.chg fun b hb hB => h.apart b hb hB, ho, fun b hb hB => by
    rcases hp.new b hB with h1 | h1
    · exact h.apart b hb h1
    · have := (h.fst.block hb).2; omega⟩
end

theorem lmGet_hit {M : LM} {id : Int} {k : Nat} (h : ∀ j, j < k → (M.getD j (0, 0)).1 ≠ id) (hk : k < M.length) (he : (M.getD k (0, 0)).1 = id) : lmGet M id = (M.getD k (0, 0)).2 := by
  unfold lmGet
  have : M.find? (fun x => x.1 == id) = some (M.getD k (0, 0)) := by
    rw [List.find?_eq_some_iff_getElem]
    refine ⟨by simpa using he, k, hk, by simp [List.getD_eq_getElem?_getD, hk], fun j hj => ?_⟩
    have := h j hj
    simp [List.getD_eq_getElem?_getD, show j < M.length by omega] at this
    simpa using this
  rw [this]
theorem lmGet_miss {M : LM} {id : Int} (h : ∀ j, j < M.length → (M.getD j (0, 0)).1 ≠ id) : lmGet M id = 0 := by
  unfold lmGet
  have : M.find? (fun x => x.1 == id) = none := by
    rw [List.find?_eq_none]
    intro x hx
    obtain ⟨j, hj, rfl⟩ := List.getElem_of_mem hx
    have := h j hj
    simp [List.getD_eq_getElem?_getD, hj] at this
    simpa using this
  rw [this]
theorem getD_fst (M : LM) (k : Nat) : (M.map Prod.fst).getD k 0 = (M.getD k (0, 0)).1 := by
  simp [List.getD_eq_getElem?_getD, List.getElem?_map]; cases M[k]? <;> rfl
theorem getD_snd (M : LM) (k : Nat) : (M.map Prod.snd).getD k 0 = (M.getD k (0, 0)).2 := by
  simp [List.getD_eq_getElem?_getD, List.getElem?_map]; cases M[k]? <;> rfl

/-! set: what the loop has built. -/
def refStep (id n : Int) (st : LM × Bool) (x : Int × Int) : LM × Bool :=
  let st1 := if !st.2 && decide (id ≤ x.1) then (st.1 ++ [(id, n)], true) else st
  if x.1 = id then st1 else (st1.1 ++ [x], st1.2)
def refRun (M : LM) (id n : Int) : LM × Bool := M.foldl (refStep id n) ([], n == 0)
def refSet (M : LM) (id n : Int) : LM := if (refRun M id n).2 then (refRun M id n).1 else (refRun M id n).1 ++ [(id, n)]
theorem refRun_succ (M : LM) (id n : Int) (k : Nat) (hk : k < M.length) : refRun (M.take (k + 1)) id n = refStep id n (refRun (M.take k) id n) (M.getD k (0, 0)) := by
  unfold refRun
  rw [List.take_succ_eq_append_getElem hk, List.foldl_append]
  simp [List.getD_eq_getElem?_getD, hk]
theorem refStep_len (id n : Int) (st : LM × Bool) (x : Int × Int) : (refStep id n st x).1.length ≤ st.1.length + 2 := by
  unfold refStep
  dsimp only
  split <;> split <;> simp
theorem refRun_len (id n : Int) : ∀ (M : LM) (st : LM × Bool), (M.foldl (refStep id n) st).1.length ≤ st.1.length + 2 * M.length
  | [], st => by simp
  | x :: M, st => by
    have h1 := refRun_len id n M (refStep id n st x)
    have h2 := refStep_len id n st x
    simp only [List.foldl_cons, List.length_cons]
    omega
theorem refStep_in (id n : Int) (out : LM) (x : Int × Int) (h2 : x.1 = id) : refStep id n (out, false) x = (out ++ [(id, n)], true) := by simp [refStep, h2]
theorem refStep_both (id n : Int) (out : LM) (x : Int × Int) (h : id ≤ x.1) (h2 : x.1 ≠ id) : refStep id n (out, false) x = (out ++ [(id, n)] ++ [x], true) := by simp [refStep, h, h2]
theorem refStep_low (id n : Int) (out : LM) (x : Int × Int) (h : ¬ id ≤ x.1) : refStep id n (out, false) x = (out ++ [x], false) := by
  have : x.1 ≠ id := by omega
  simp [refStep, h, this]
theorem refStep_keep (id n : Int) (out : LM) (x : Int × Int) (h2 : x.1 ≠ id) : refStep id n (out, true) x = (out ++ [x], true) := by simp [refStep, h2]
theorem refStep_drop (id n : Int) (out : LM) (x : Int × Int) (h2 : x.1 = id) : refStep id n (out, true) x = (out, true) := by simp [refStep, h2]
theorem rl_facts {w w' : World} {g : Nat} {t : TypeId} {a b u v : Value} {X Y : Addr} (h1 : Blk w g t #[a, b]) (hb : Below w.heap.size w w') (hc : w.cell? X = some u) (hd : w.cell? Y = some v) :
    w'.cell? ⟨g, 0, none⟩ = some a ∧ w'.cell? ⟨g, 1, none⟩ = some b ∧ w'.cell? X = some u ∧ w'.cell? Y = some v :=
  ⟨by rw [(h1.call hb).cell 0]; rfl, by rw [(h1.call hb).cell 1]; rfl, (hb.cell (block_lt_of_cell hc)).trans hc, (hb.cell (block_lt_of_cell hd)).trans hd⟩
def pre2 (L : LM) : List Int := L.map Prod.fst
def post2 (L : LM) : List Int := L.map Prod.snd
theorem pre2_snoc (L : LM) (x : Int × Int) : pre2 (L ++ [x]) = pre2 L ++ [x.1] := by simp [pre2]
theorem post2_snoc (L : LM) (x : Int × Int) : post2 (L ++ [x]) = post2 L ++ [x.2] := by simp [post2]
theorem pre2_len (L : LM) : (pre2 L).length = L.length := by simp [pre2]
theorem post2_len (L : LM) : (post2 L).length = L.length := by simp [post2]

theorem chg_two {w w1 : World} {g : Nat} (h : Chg (· = g) w w1) (a b : Value) : Chg (· = g) w ((w1.setCell ⟨g, 0, none⟩ a).setCell ⟨g, 1, none⟩ b) :=
  (h.setCell (p := ⟨g, 0, none⟩) (fun _ => rfl) a).setCell (p := ⟨g, 1, none⟩) (fun _ => rfl) b
end Go.Proofs.Ytfpepgeaaadpdaa

namespace Go.Proofs.Ytfpepgeaaadpdaa
open Go Go.RowKit Go.Deep

def lmSorted (M : LM) : Prop := M.Pairwise fun x y => x.1 < y.1
theorem refRun_done (id n : Int) : ∀ (M out : LM), M.foldl (refStep id n) (out, true) = (out ++ lmDel M id, true)
  | [], out => by simp [lmDel]
  | x :: M, out => by
    rw [List.foldl_cons]
    by_cases h : x.1 = id
    · rw [refStep_drop id n out x h, refRun_done id n M out]
      simp [lmDel, h]
    · rw [refStep_keep id n out x h, refRun_done id n M]
      simp [lmDel, h]
theorem lmIns_low (id n : Int) : ∀ L : LM, (∀ y ∈ L, id < y.1) → lmIns (id, n) L = (id, n) :: L
  | [], _ => rfl
  | y :: L, h => by unfold lmIns; rw [if_pos (h y (by simp))]
theorem refRun_open (id n : Int) : ∀ (M out : LM), lmSorted M → (if (M.foldl (refStep id n) (out, false)).2 then (M.foldl (refStep id n) (out, false)).1 else (M.foldl (refStep id n) (out, false)).1 ++ [(id, n)]) = out ++ lmIns (id, n) (lmDel M id)
  | [], out, _ => by simp [lmDel, lmIns]
  | x :: M, out, hs => by
    obtain ⟨h1, h2⟩ := List.pairwise_cons.1 hs
    rw [List.foldl_cons]
    by_cases hlt : id ≤ x.1
    · by_cases he : x.1 = id
      · rw [refStep_in id n out x he, refRun_done]
        have : lmIns (id, n) (lmDel M id) = (id, n) :: lmDel M id := lmIns_low id n _ fun y hy => by
          have := h1 y (List.mem_filter.1 hy).1; omega
        simp only [if_true]
        rw [show lmDel (x :: M) id = lmDel M id by simp [lmDel, he], this]
        simp
      · rw [refStep_both id n out x hlt he, refRun_done]
        simp only [if_true]
        rw [show lmDel (x :: M) id = x :: lmDel M id by simp [lmDel, he]]
        unfold lmIns
        rw [if_pos (show id < x.1 by omega)]
        simp
    · rw [refStep_low id n out x hlt, refRun_open id n M _ h2]
      rw [show lmDel (x :: M) id = x :: lmDel M id by
        have : ¬ x.1 = id := by omega
        simp [lmDel, this]]
      rw [show lmIns (id, n) (x :: lmDel M id) = x :: lmIns (id, n) (lmDel M id) by
        show (if id < x.1 then _ else _) = _
        rw [if_neg (by omega)]]
      simp
theorem refSet_eq (M : LM) (id n : Int) (h : lmSorted M) : refSet M id n = if n = 0 then lmDel M id else lmPut M id n := by
  unfold refSet refRun
  by_cases hn : n = 0
  · subst hn
    rw [show ((0 : Int) == 0) = true from rfl, refRun_done]
    simp
  · rw [show (n == 0) = false by simpa using hn, refRun_open id n M [] h, if_neg hn]
    simp [lmPut]
theorem lmDel_sorted {M : LM} (h : lmSorted M) (id : Int) : lmSorted (lmDel M id) := List.Pairwise.filter _ h
theorem lmIns_sorted {id n : Int} : ∀ {L : LM}, lmSorted L → (∀ y ∈ L, y.1 ≠ id) → lmSorted (lmIns (id, n) L)
  | [], _, _ => by simp [lmSorted, lmIns]
  | y :: L, hs, hne => by
    obtain ⟨h1, h2⟩ := List.pairwise_cons.1 hs
    unfold lmIns
    by_cases h : id < y.1
    · rw [if_pos h]
      exact List.pairwise_cons.2 ⟨fun z hz => by
        rcases List.mem_cons.1 hz with rfl | hz
        · exact h
        · have := h1 z hz; show id < z.1; omega, hs⟩
    · rw [if_neg h]
      have hy := hne y (by simp)
      refine List.pairwise_cons.2 ⟨fun z hz => ?_, lmIns_sorted h2 fun z hz => hne z (by simp [hz])⟩
      rcases lmIns_mem hz with rfl | hz
      · show y.1 < id; omega
      · exact h1 z hz
theorem lmPut_sorted {M : LM} (h : lmSorted M) (id v : Int) : lmSorted (lmPut M id v) := lmIns_sorted (lmDel_sorted h id) fun y hy => by simpa using (List.mem_filter.1 hy).2
theorem lmAdd_sorted {M : LM} (h : lmSorted M) (id n : Int) : lmSorted (lmAdd M id n) := by
  unfold lmAdd
  split
  · exact h
  · split
    · exact lmDel_sorted h id
    · exact lmPut_sorted h id _
theorem lmAdd_ref (M : LM) (id n : Int) (h : lmSorted M) (hn : ¬ (n < -1099511627776 ∨ 1099511627776 < n)) : refSet M id (max 0 (min 1099511627776 (lmGet M id + n))) = lmAdd M id n := by
  unfold lmAdd
  rw [refSet_eq M id _ h, if_neg hn]
  by_cases hz : min 1099511627776 (lmGet M id + n) ≤ 0
  · rw [if_pos (by omega), if_pos hz]
  · rw [if_neg (by omega), if_neg hz, show max 0 (min 1099511627776 (lmGet M id + n)) = min 1099511627776 (lmGet M id + n) by omega]

end Go.Proofs.Ytfpepgeaaadpdaa
