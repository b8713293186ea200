/- load and its reference: bears, Less. the reference's loads: Get, set. the reference's loads: set and Add come to the same list. wheel: what a wheel is in memory; its small functions. wheel: a row without one number. backends; two and its reference: Draw. the reference's Draw; the closure that is the better one of two; folds. two: better, fold. two: Best, Pick. two: Pick; the reference's Pick of the least loaded one. the reference's Best and Pick. the sets of backends that a law speaks of. two: what the laws keep of the loads; the check of an example. The picks that PolicyPicks is given. The steps of a table that a law is given. -/
import Derived.Test.YtbmmklgkbbbopaaGreatJ10
import Derived.Test.YtbmmklgkbbbopaaGreatJ18
import Derived.Test.YtbmmklgkbbbopaaGreatJ9
import Derived.Maps.OwnSet
import Derived.Deep.QuietTactic
import Derived.Laws.IdiomCopy
import Derived.Deep.RegionHeld3
import Derived.Test.YtbmmklgkbbbopaaGreatJ3
import Derived.Test.YtbmmklgkbbbopaaGreatJ13
namespace Go.Proofs.YtbmmklgkbbbopaaGreat
open Go Go.RowKit Go.Deep

def bearB (L W : Int) : Bool := decide (0 ≤ L) && decide (L ≤ 1099511627776) && decide (1 ≤ W) && decide (W ≤ 1000)
def lessB (L W i L2 W2 i2 : Int) : Bool := bearB L W && bearB L2 W2 && (decide (L * W2 < L2 * W) || (decide (L * W2 = L2 * W) && decide (i < i2)))
theorem bearB_t {L W : Int} (h : bearB L W = true) : 0 ≤ L ∧ L ≤ 1099511627776 ∧ 1 ≤ W ∧ W ≤ 1000 := by
  simp [bearB] at h; omega
theorem wrap64_id (n : Int) (h : -9223372036854775808 ≤ n ∧ n ≤ 9223372036854775807) : wrap64 n = n := by unfold wrap64; omega
theorem mul_rng {L W : Int} (h1 : 0 ≤ L) (h2 : L ≤ 1099511627776) (h3 : 1 ≤ W) (h4 : W ≤ 1000) : 0 ≤ L * W ∧ L * W ≤ 1099511627776000 := by
  refine ⟨Int.mul_nonneg h1 (by omega), ?_⟩
  have a : L * W ≤ 1099511627776 * W := Int.mul_le_mul_of_nonneg_right h2 (by omega)
  omega
end Go.Proofs.YtbmmklgkbbbopaaGreat

namespace Go.Proofs.YtbmmklgkbbbopaaGreat
open Go Go.RowKit Go.Deep

structure Two (w : World) (base : Nat) (A : Option Addr) (c : Nat) (L : List Int) (B : Option Addr) (d : Nat) (K : List Int) : Prop where
  fst : OwnI w base A c L
  snd : OwnI w base B d K
  apart : ∀ b, InB A b → ¬ InB B b
section
variable {w w' : World} {base : Nat} {A A' B B' : Option Addr} {c d c' d' : Nat} {L K : List Int} {v : Int}
theorem Two.push1 (h : Two w base A c L B d K) (ho : OwnI w' base A' c' (L ++ [v])) (hp : Pushed w w' A A') : Two w' base A' c' (L ++ [v]) B d K :=
  ⟨ho, h.snd.chg hp.chg fun b hb hA => h.apart b hA hb, fun b hb hB => by
    rcases hp.new b hb with h1 | h1
    · exact h.apart b h1 hB
    · have := (h.snd.block hB).2; omega⟩
theorem Two.push2 (h : Two w base A c L B d K) (ho : OwnI w' base B' d' (K ++ [v])) (hp : Pushed w w' B B') : Two w' base A c L B' d' (K ++ [v]) :=
  ⟨h.fst.chg hp.chg fun b hb hB => h.apart b hb hB, ho, fun b hb hB => by
    rcases hp.new b hB with h1 | h1
    · exact h.apart b hb h1
    · have := (h.fst.block hb).2; omega⟩
end

theorem lmGet_hit {M : LM} {id : Int} {k : Nat} (h : ∀ j, j < k → (M.getD j (0, 0)).1 ≠ id) (hk : k < M.length) (he : (M.getD k (0, 0)).1 = id) : lmGet M id = (M.getD k (0, 0)).2 := by
  unfold lmGet
  have : M.find? (fun x => x.1 == id) = some (M.getD k (0, 0)) := by
    rw [List.find?_eq_some_iff_getElem]
    refine ⟨by simpa using he, k, hk, by simp [List.getD_eq_getElem?_getD, hk], fun j hj => ?_⟩
    have := h j hj
    simp [List.getD_eq_getElem?_getD, show j < M.length by omega] at this
    simpa using this
  rw [this]
theorem lmGet_miss {M : LM} {id : Int} (h : ∀ j, j < M.length → (M.getD j (0, 0)).1 ≠ id) : lmGet M id = 0 := by
  unfold lmGet
  have : M.find? (fun x => x.1 == id) = none := by
    rw [List.find?_eq_none]
    intro x hx
    obtain ⟨j, hj, rfl⟩ := List.getElem_of_mem hx
    have := h j hj
    simp [List.getD_eq_getElem?_getD, hj] at this
    simpa using this
  rw [this]
theorem getD_fst (M : LM) (k : Nat) : (M.map Prod.fst).getD k 0 = (M.getD k (0, 0)).1 := by
  simp [List.getD_eq_getElem?_getD, List.getElem?_map]; cases M[k]? <;> rfl
theorem getD_snd (M : LM) (k : Nat) : (M.map Prod.snd).getD k 0 = (M.getD k (0, 0)).2 := by
  simp [List.getD_eq_getElem?_getD, List.getElem?_map]; cases M[k]? <;> rfl

/-! set: what the loop has built. -/
def refStep (id n : Int) (st : LM × Bool) (x : Int × Int) : LM × Bool :=
  let st1 := if !st.2 && decide (id ≤ x.1) then (st.1 ++ [(id, n)], true) else st
  if x.1 = id then st1 else (st1.1 ++ [x], st1.2)
def refRun (M : LM) (id n : Int) : LM × Bool := M.foldl (refStep id n) ([], n == 0)
def refSet (M : LM) (id n : Int) : LM := if (refRun M id n).2 then (refRun M id n).1 else (refRun M id n).1 ++ [(id, n)]
theorem refRun_succ (M : LM) (id n : Int) (k : Nat) (hk : k < M.length) : refRun (M.take (k + 1)) id n = refStep id n (refRun (M.take k) id n) (M.getD k (0, 0)) := by
  unfold refRun
  rw [List.take_succ_eq_append_getElem hk, List.foldl_append]
  simp [List.getD_eq_getElem?_getD, hk]
theorem refStep_len (id n : Int) (st : LM × Bool) (x : Int × Int) : (refStep id n st x).1.length ≤ st.1.length + 2 := by
  unfold refStep
  dsimp only
  split <;> split <;> simp
theorem refRun_len (id n : Int) : ∀ (M : LM) (st : LM × Bool), (M.foldl (refStep id n) st).1.length ≤ st.1.length + 2 * M.length
  | [], st => by simp
  | x :: M, st => by
    have h1 := refRun_len id n M (refStep id n st x)
    have h2 := refStep_len id n st x
    simp only [List.foldl_cons, List.length_cons]
    omega
theorem refStep_in (id n : Int) (out : LM) (x : Int × Int) (h2 : x.1 = id) : refStep id n (out, false) x = (out ++ [(id, n)], true) := by simp [refStep, h2]
theorem refStep_both (id n : Int) (out : LM) (x : Int × Int) (h : id ≤ x.1) (h2 : x.1 ≠ id) : refStep id n (out, false) x = (out ++ [(id, n)] ++ [x], true) := by simp [refStep, h, h2]
theorem refStep_low (id n : Int) (out : LM) (x : Int × Int) (h : ¬ id ≤ x.1) : refStep id n (out, false) x = (out ++ [x], false) := by
  have : x.1 ≠ id := by omega
  simp [refStep, h, this]
theorem refStep_keep (id n : Int) (out : LM) (x : Int × Int) (h2 : x.1 ≠ id) : refStep id n (out, true) x = (out ++ [x], true) := by simp [refStep, h2]
theorem refStep_drop (id n : Int) (out : LM) (x : Int × Int) (h2 : x.1 = id) : refStep id n (out, true) x = (out, true) := by simp [refStep, h2]
theorem rl_facts {w w' : World} {g : Nat} {t : TypeId} {a b u v : Value} {X Y : Addr} (h1 : Blk w g t #[a, b]) (hb : Below w.heap.size w w') (hc : w.cell? X = some u) (hd : w.cell? Y = some v) :
    w'.cell? ⟨g, 0, none⟩ = some a ∧ w'.cell? ⟨g, 1, none⟩ = some b ∧ w'.cell? X = some u ∧ w'.cell? Y = some v :=
  ⟨by rw [(h1.call hb).cell 0]; rfl, by rw [(h1.call hb).cell 1]; rfl, (hb.cell (block_lt_of_cell hc)).trans hc, (hb.cell (block_lt_of_cell hd)).trans hd⟩
def pre2 (L : LM) : List Int := L.map Prod.fst
def post2 (L : LM) : List Int := L.map Prod.snd
theorem pre2_snoc (L : LM) (x : Int × Int) : pre2 (L ++ [x]) = pre2 L ++ [x.1] := by simp [pre2]
theorem post2_snoc (L : LM) (x : Int × Int) : post2 (L ++ [x]) = post2 L ++ [x.2] := by simp [post2]
theorem pre2_len (L : LM) : (pre2 L).length = L.length := by simp [pre2]
theorem post2_len (L : LM) : (post2 L).length = L.length := by simp [post2]

theorem chg_two {w w1 : World} {g : Nat} (h : Chg (· = g) w w1) (a b : Value) : Chg (· = g) w ((w1.setCell ⟨g, 0, none⟩ a).setCell ⟨g, 1, none⟩ b) :=
  (h.setCell (p := ⟨g, 0, none⟩) (fun _ => rfl) a).setCell (p := ⟨g, 1, none⟩) (fun _ => rfl) b
end Go.Proofs.YtbmmklgkbbbopaaGreat

namespace Go.Proofs.YtbmmklgkbbbopaaGreat
open Go Go.RowKit Go.Deep

def lmSorted (M : LM) : Prop := M.Pairwise fun x y => x.1 < y.1
theorem refRun_done (id n : Int) : ∀ (M out : LM), M.foldl (refStep id n) (out, true) = (out ++ lmDel M id, true)
  | [], out => by simp [lmDel]
  | x :: M, out => by
    rw [List.foldl_cons]
    by_cases h : x.1 = id
    · rw [refStep_drop id n out x h, refRun_done id n M out]
      simp [lmDel, h]
    · rw [refStep_keep id n out x h, refRun_done id n M]
      simp [lmDel, h]
theorem lmIns_low (id n : Int) : ∀ L : LM, (∀ y ∈ L, id < y.1) → lmIns (id, n) L = (id, n) :: L
  | [], _ => rfl
  | y :: L, h => by unfold lmIns; rw [if_pos (h y (by simp))]
theorem refRun_open (id n : Int) : ∀ (M out : LM), lmSorted M → (if (M.foldl (refStep id n) (out, false)).2 then (M.foldl (refStep id n) (out, false)).1 else (M.foldl (refStep id n) (out, false)).1 ++ [(id, n)]) = out ++ lmIns (id, n) (lmDel M id)
  | [], out, _ => by simp [lmDel, lmIns]
  | x :: M, out, hs => by
    obtain ⟨h1, h2⟩ := List.pairwise_cons.1 hs
    rw [List.foldl_cons]
    by_cases hlt : id ≤ x.1
    · by_cases he : x.1 = id
      · rw [refStep_in id n out x he, refRun_done]
        have : lmIns (id, n) (lmDel M id) = (id, n) :: lmDel M id := lmIns_low id n _ fun y hy => by
          have := h1 y (List.mem_filter.1 hy).1; omega
        simp only [if_true]
        rw [show lmDel (x :: M) id = lmDel M id by simp [lmDel, he], this]
        simp
      · rw [refStep_both id n out x hlt he, refRun_done]
        simp only [if_true]
        rw [show lmDel (x :: M) id = x :: lmDel M id by simp [lmDel, he]]
        unfold lmIns
        rw [if_pos (show id < x.1 by omega)]
        simp
    · rw [refStep_low id n out x hlt, refRun_open id n M _ h2]
      rw [show lmDel (x :: M) id = x :: lmDel M id by
        have : ¬ x.1 = id := by omega
        simp [lmDel, this]]
      rw [show lmIns (id, n) (x :: lmDel M id) = x :: lmIns (id, n) (lmDel M id) by
        show (if id < x.1 then _ else _) = _
        rw [if_neg (by omega)]]
      simp
theorem refSet_eq (M : LM) (id n : Int) (h : lmSorted M) : refSet M id n = if n = 0 then lmDel M id else lmPut M id n := by
  unfold refSet refRun
  by_cases hn : n = 0
  · subst hn
    rw [show ((0 : Int) == 0) = true from rfl, refRun_done]
    simp
  · rw [show (n == 0) = false by simpa using hn, refRun_open id n M [] h, if_neg hn]
    simp [lmPut]
theorem lmDel_sorted {M : LM} (h : lmSorted M) (id : Int) : lmSorted (lmDel M id) := List.Pairwise.filter _ h
theorem lmIns_sorted {id n : Int} : ∀ {L : LM}, lmSorted L → (∀ y ∈ L, y.1 ≠ id) → lmSorted (lmIns (id, n) L)
  | [], _, _ => by simp [lmSorted, lmIns]
  | y :: L, hs, hne => by
    obtain ⟨h1, h2⟩ := List.pairwise_cons.1 hs
    unfold lmIns
    by_cases h : id < y.1
    · rw [if_pos h]
      exact List.pairwise_cons.2 ⟨fun z hz => by
        rcases List.mem_cons.1 hz with rfl | hz
        · exact h
        · have := h1 z hz; show id < z.1; omega, hs⟩
    · rw [if_neg h]
      have hy := hne y (by simp)
      refine List.pairwise_cons.2 ⟨fun z hz => ?_, lmIns_sorted h2 fun z hz => hne z (by simp [hz])⟩
      rcases lmIns_mem hz with rfl | hz
      · show y.1 < id; omega
      · exact h1 z hz
theorem lmPut_sorted {M : LM} (h : lmSorted M) (id v : Int) : lmSorted (lmPut M id v) := lmIns_sorted (lmDel_sorted h id) fun y hy => by simpa using (List.mem_filter.1 hy).2
theorem lmAdd_sorted {M : LM} (h : lmSorted M) (id n : Int) : lmSorted (lmAdd M id n) := by
  unfold lmAdd
  split
  · exact h
  · split
    · exact lmDel_sorted h id
    · exact lmPut_sorted h id _
theorem lmAdd_ref (M : LM) (id n : Int) (h : lmSorted M) (hn : ¬ (n < -1099511627776 ∨ 1099511627776 < n)) : refSet M id (max 0 (min 1099511627776 (lmGet M id + n))) = lmAdd M id n := by
  unfold lmAdd
  rw [refSet_eq M id _ h, if_neg hn]
  by_cases hz : min 1099511627776 (lmGet M id + n) ≤ 0
  · rw [if_pos (by omega), if_pos hz]
  · rw [if_neg (by omega), if_neg hz, show max 0 (min 1099511627776 (lmGet M id + n)) = min 1099511627776 (lmGet M id + n) by omega]

end Go.Proofs.YtbmmklgkbbbopaaGreat

namespace Go.Proofs.YtbmmklgkbbbopaaGreat
open Go Go.RowKit Go.Deep Go.Maps Go.ChangeMaps

/-! Numbers that are due, by the numbers' order. -/
def lmHas (M : LM) (id : Int) : Bool := M.any fun x => x.1 == id
theorem lm_has (M : LM) (id : Int) : Maps.has (lmD M) (ilit id) = lmHas M id := by
  show (lmE M).any (fun p => p.1.sameKey (ilit id)) = _
  unfold lmE lmHas
  rw [List.any_map]
  congr 1
  funext x
  exact ilit_same _ _
theorem lm_size (M : LM) : Maps.size (lmD M) = M.length := by
  show (lmE M).length = _
  unfold lmE
  rw [List.length_map]
theorem Imap.look2 {w : World} {b : Nat} {M : LM} (h : Imap w b M) {id : Int} (hk : (Lit.int .i64 id).wf = true) :
    (Instr.lookup 119 (.map (some b)) (.int .i64 id) true).run Tryz.prog w = .ok (.tuple #[.int .i64 (lmGet M id), .bool (lmHas M id)]) w := by
  obtain ⟨v, ps, hrun, hat⟩ := World.ownsMap.look_ok h int_law Tryz.underlying119 (int_zero w) (plainElem_int Tryz.underlying3 (by decide)) (int_key hk)
  obtain ⟨c, rfl, hc, _⟩ := plainElem_int_inv Tryz.underlying3 hat
  simp only [Prod.mk.injEq] at hc
  have := (lm_at M id).symm.trans hc.1
  simp [ilit] at this
  rw [hrun, this, lm_has]
theorem Imap.len {w : World} {b : Nat} {M : LM} (h : Imap w b M) : (Builtin.len_ #[119] 3 #[.map (some b)]).run Tryz.prog w = .ok (.int .i64 M.length) w := by
  have := World.ownsMap.len h Tryz.underlying119 3
  rw [lm_size] at this
  exact this
/-- A wheel: its granule and time, what is due, the rows, the row of each number. -/
structure WhAt (w : World) (base g bm : Nat) (G now : Int) (M : LM) (R : Nat → List Int) (A : Nat → Option Addr) (C : Nat → Nat) (T : Nat → Int) (Z : Array Value) : Prop where
  blk : Blk w g 123 Z
  size : Z.size = 4163
  z0 : Z[0]? = some (.int .i64 G)
  z1 : Z[1]? = some (.int .i64 now)
  z2 : Z[2]? = some (.map (some bm))
  row : ∀ k, k < 64 → Z[3 + k]? = some (.slice (A k) (R k).length (C k))
  own : ∀ k, k < 64 → OwnI w base (A k) (C k) (R k)
  apart : ∀ k j, k < 64 → j < 64 → k ≠ j → ∀ b, InB (A k) b → ¬ InB (A j) b
  at_ : ∀ i, i < 4096 → Z[67 + i]? = some (.int .i32 (T i))
  map : Imap w bm M
  gb : base ≤ g
  mb : base ≤ bm
section
variable {w w' : World} {base g bm : Nat} {G now : Int} {M : LM} {R : Nat → List Int} {A : Nat → Option Addr} {C : Nat → Nat} {T : Nat → Int} {Z : Array Value}
theorem WhAt.call (h : WhAt w base g bm G now M R A C T Z) (hb : Below w.heap.size w w') : WhAt w' base g bm G now M R A C T Z :=
  ⟨h.blk.call hb, h.size, h.z0, h.z1, h.z2, h.row, fun k hk => (h.own k hk).call hb, h.apart, h.at_, h.map.call hb, h.gb, h.mb⟩
theorem WhAt.cell (h : WhAt w base g bm G now M R A C T Z) {i : Nat} {v : Value} (hz : Z[i]? = some v) : w.cell? ⟨g, i, none⟩ = some v := (h.blk.cell i).trans hz
/-- The blocks that are a wheel's. -/
def whF (g bm : Nat) (A : Nat → Option Addr) (b : Nat) : Prop := b = g ∨ b = bm ∨ ∃ k, k < 64 ∧ InB (A k) b
theorem WhAt.chg {F : Nat → Prop} (h : WhAt w base g bm G now M R A C T Z) (k : Chg F w w') (hF : ∀ b, F b → ¬ whF g bm A b) : WhAt w' base g bm G now M R A C T Z :=
  ⟨h.blk.chg k (fun e => hF _ e (.inl rfl)), h.size, h.z0, h.z1, h.z2, h.row, fun j hj => (h.own j hj).chg k (fun b hb e => hF b e (.inr (.inr ⟨j, hj, hb⟩))), h.apart, h.at_, h.map.chg k (fun e => hF _ e (.inr (.inl rfl))), h.gb, h.mb⟩
theorem WhAt.whF_lt (h : WhAt w base g bm G now M R A C T Z) {b : Nat} (hb : whF g bm A b) : base ≤ b ∧ b < w.heap.size := by
  rcases hb with rfl | rfl | ⟨k, hk, hb⟩
  · exact ⟨h.gb, h.blk.lt⟩
  · exact ⟨h.mb, h.map.lt⟩
  · exact (h.own k hk).block hb
theorem WhAt.below_of (h : WhAt w base g bm G now M R A C T Z) (k : Chg (whF g bm A) w w') : Below base w w' :=
  k.below (fun b hb e => by have := (h.whF_lt e).1; omega) (by have := h.gb; have := h.blk.lt; omega)
theorem wheel_given_nil (w : World) : Calls Tryz.prog 129 #[.pointer none] w fun e w' => e = .returned (.bool false) ∧ w = w' := by
  go_enter Tryz.func129, Tryz.ntmps129
  go_wp2_with fail
  go_ret
  exact ⟨rfl, rfl⟩
theorem wheel_given_plain {Z : Array Value} {g : Nat} {w : World} (h : Blk w g 123 Z) (hz : Z[0]? = some (.int .i64 0)) : Calls Tryz.prog 129 #[.pointer (some ⟨g, 0, none⟩)] w fun e w' => e = .returned (.bool false) ∧ w = w' := by
  have c0 := (h.cell 0).trans hz
  clear h hz
  go_enter Tryz.func129, Tryz.ntmps129
  go_wp2_with fail
  go_ret
  exact ⟨rfl, rfl⟩
theorem wheel_given (h : WhAt w base g bm G now M R A C T Z) (hG : 0 < G) : Calls Tryz.prog 129 #[.pointer (some ⟨g, 0, none⟩)] w fun e w' => e = .returned (.bool true) ∧ w = w' := by
  have c0 := h.cell h.z0
  have hd : decide (0 < G) = true := by simpa using hG
  clear h
  go_enter Tryz.func129, Tryz.ntmps129
  go_wp2_with fail
  go_ret
  exact ⟨by first | rfl | simp [hd], rfl⟩
/-- A time's turn. -/
def turnI (G due : Int) : Int := (due + G - 1) / G
theorem wheel_turn (h : WhAt w base g bm G now M R A C T Z) (hG : 1 ≤ G ∧ G ≤ 1024) (due : Int) (hd : 0 ≤ due ∧ due ≤ 2199023255552) : Calls Tryz.prog 135 #[.pointer (some ⟨g, 0, none⟩), .int .i64 due] w fun e w' => e = .returned (.int .i64 (turnI G due)) ∧ ∃ n, w' = w.drewN n := by
  have c0 := h.cell h.z0
  have hq : (due + G - 1) / G = turnI G due := rfl
  have hz : (G == 0) = false := by rw [beq_eq_false_iff_ne]; omega
  generalize turnI G due = r at *
  replace hq := Lib.hid hq
  clear h
  go_enter Tryz.func135, Tryz.ntmps135
  go_wp2_with fail
  go_quiet (fail)
  go_wp2_with fail
  go_ret
  exact ⟨by rw [← hq.out]; rfl, _, rfl⟩
theorem wheel_now_nil (w : World) : Calls Tryz.prog 112 #[.pointer none] w fun e w' => e = .returned (.int .i64 0) ∧ w = w' := by
  go_enter Tryz.func112, Tryz.ntmps112
  go_wp2_with fail
  refine (wheel_given_nil _).mono ?_
  rintro e w1 ⟨rfl, rfl⟩
  go_wp2_with fail
  go_ret
  exact ⟨rfl, rfl⟩
theorem wheel_now (h : WhAt w base g bm G now M R A C T Z) (hG : 0 < G) : Calls Tryz.prog 112 #[.pointer (some ⟨g, 0, none⟩)] w fun e w' => e = .returned (.int .i64 now) ∧ w = w' := by
  have GV := Lib.hid (wheel_given h hG)
  have c1 := h.cell h.z1
  clear h
  go_enter Tryz.func112, Tryz.ntmps112
  go_wp2_with fail
  refine GV.out.mono ?_
  rintro e w1 ⟨rfl, rfl⟩
  go_wp2_with fail
  go_ret
  exact ⟨rfl, rfl⟩
theorem wheel_due_nil (id : Int) (w : World) : Calls Tryz.prog 153 #[.pointer none, .int .i64 id] w fun e w' => e = .returned (.tuple #[.int .i64 0, .bool false]) ∧ w = w' := by
  go_enter Tryz.func153, Tryz.ntmps153
  go_wp2_with fail
  refine (wheel_given_nil _).mono ?_
  rintro e w1 ⟨rfl, rfl⟩
  go_wp2_with fail
  go_ret2
  exact ⟨rfl, rfl⟩
theorem wheel_due_plain {Z : Array Value} {g : Nat} {w : World} (id : Int) (h : Blk w g 123 Z) (hz : Z[0]? = some (.int .i64 0)) : Calls Tryz.prog 153 #[.pointer (some ⟨g, 0, none⟩), .int .i64 id] w fun e w' => e = .returned (.tuple #[.int .i64 0, .bool false]) ∧ w = w' := by
  have GV := Lib.hid (wheel_given_plain h hz)
  clear h hz
  go_enter Tryz.func153, Tryz.ntmps153
  go_wp2_with fail
  refine GV.out.mono ?_
  rintro e w1 ⟨rfl, rfl⟩
  go_wp2_with fail
  go_ret2
  exact ⟨rfl, rfl⟩
theorem wheel_due (h : WhAt w base g bm G now M R A C T Z) (hG : 0 < G) (id : Int) (hk : (Lit.int .i64 id).wf = true) : Calls Tryz.prog 153 #[.pointer (some ⟨g, 0, none⟩), .int .i64 id] w fun e w' => e = .returned (.tuple #[.int .i64 (lmGet M id), .bool (lmHas M id)]) ∧ w = w' := by
  have GV := Lib.hid (wheel_given h hG)
  have c2 := h.cell h.z2
  have hl := h.map.look2 hk
  clear h
  go_enter Tryz.func153, Tryz.ntmps153
  go_wp2_with fail
  refine GV.out.mono ?_
  rintro e w1 ⟨rfl, rfl⟩
  go_wp2_with fail
  go_ret2
  exact ⟨rfl, rfl⟩
/-- The row in which a number waits. -/
def rowI (G now due : Int) : Int := (max (turnI G due) (now / G)) % 64
set_option maxHeartbeats 2000000 in
theorem wheel_row (h : WhAt w base g bm G now M R A C T Z) (hG : 1 ≤ G ∧ G ≤ 1024) (hn : 0 ≤ now ∧ now ≤ 2199023255552) (due : Int) (hd : 0 ≤ due ∧ due ≤ 2199023255552) : Calls Tryz.prog 144 #[.pointer (some ⟨g, 0, none⟩), .int .i64 due] w fun e w' => e = .returned (.int .i64 (rowI G now due)) ∧ ∃ n, w' = w.drewN n := by
  have TU := fun n => wheel_turn (w := w.drewN n) ⟨h.blk, h.size, h.z0, h.z1, h.z2, h.row, h.own, h.apart, h.at_, h.map, h.gb, h.mb⟩ hG due hd
  have c0 := h.cell h.z0
  have c1 := h.cell h.z1
  have hz : (G == 0) = false := by rw [beq_eq_false_iff_ne]; omega
  obtain ⟨r, hr⟩ : ∃ r, rowI G now due = r := ⟨_, rfl⟩
  have htm : (max (turnI G due) (now / G)).tmod 64 = rowI G now due := by
    have h1 : 0 ≤ now / G := Int.ediv_nonneg (by omega) (by omega)
    exact Int.tmod_eq_emod_of_nonneg (by omega)
  rw [hr] at htm ⊢
  clear hr
  generalize turnI G due = t at *
  have C0 : ∀ n, (w.drewN n).cell? ⟨g, 0, none⟩ = some (.int .i64 G) := fun n => c0
  have C1 : ∀ n, (w.drewN n).cell? ⟨g, 1, none⟩ = some (.int .i64 now) := fun n => c1
  replace TU := Lib.hid TU
  replace htm := Lib.hid htm
  clear h
  go_enter Tryz.func144, Tryz.ntmps144
  go_wp2_with fail
  go_quiet ((go_at_call 135; with_reducible exact Calls.quiet_of (TU.out _)))
  go_wp2_with fail
  go_ret
  exact ⟨by rw [← htm.out]; rfl, _, rfl⟩
end
theorem wheel_new_bad (G : Int) (w : World) (h : G < 1 ∨ 1024 < G) : Calls Tryz.prog 40 #[.int .i64 G] w fun e w' => e = .returned (.pointer none) ∧ w = w' := by
  by_cases h1 : G < 1
  · have d1 : decide (G < 1) = true := by simpa using h1
    clear h
    go_enter Tryz.func40, Tryz.ntmps40
    go_wp2_with fail
    go_ret
    exact ⟨rfl, rfl⟩
  · have d1 : decide (G < 1) = false := by simpa using h1
    have d2 : decide (1024 < G) = true := by simp; omega
    clear h
    go_enter Tryz.func40, Tryz.ntmps40
    go_wp2_with fail
    go_ret
    exact ⟨rfl, rfl⟩
theorem whZ (G : Int) (bm : Nat) (Z : Array Value) (hZ : Z = (wzL.toArray.setIfInBounds 0 (.int .i64 G)).setIfInBounds 2 (.map (some bm))) :
    Z.size = 4163 ∧ Z[0]? = some (.int .i64 G) ∧ Z[1]? = some (.int .i64 0) ∧ Z[2]? = some (.map (some bm)) ∧ (∀ k, k < 64 → Z[3 + k]? = some (.slice none 0 0)) ∧ ∀ i, i < 4096 → Z[67 + i]? = some (.int .i32 0) := by
  have hs : wzL.toArray.size = 4163 := by rw [List.size_toArray]; exact wzL_len
  have hz1 : wzL.toArray[1]? = some (.int .i64 0) := by
    rw [List.getElem?_toArray]
    unfold wzL
    rw [List.getElem?_cons_succ, List.getElem?_cons_zero]
  have hr : ∀ k, k < 64 → wzL.toArray[3 + k]? = some (.slice none 0 0) := fun k hk => by rw [List.getElem?_toArray]; exact wzL_row hk
  have ha : ∀ i, i < 4096 → wzL.toArray[67 + i]? = some (.int .i32 0) := fun i hi => by rw [List.getElem?_toArray]; exact wzL_at hi
  generalize wzL.toArray = Y at *
  subst hZ
  refine ⟨by simp [hs], ?_, ?_, ?_, fun k hk => ?_, fun i hi => ?_⟩
  · rw [Array.getElem?_setIfInBounds_ne (by omega), Array.getElem?_setIfInBounds_self_of_lt (by omega)]
  · rw [Array.getElem?_setIfInBounds_ne (by omega), Array.getElem?_setIfInBounds_ne (by omega)]
    exact hz1
  · rw [Array.getElem?_setIfInBounds_self_of_lt (by simp [hs])]
  · rw [Array.getElem?_setIfInBounds_ne (by omega), Array.getElem?_setIfInBounds_ne (by omega)]
    exact hr k hk
  · rw [Array.getElem?_setIfInBounds_ne (by omega), Array.getElem?_setIfInBounds_ne (by omega)]
    exact ha i hi
theorem wpList_build_wheel {w : World} {ops : Array Oper} {rest : List Oper} {o : Oper} {a : Act} {Q : Exit → Act → World → Prop} {Z : Array Value} {G : Int} {bm : Nat}
    (hg : o.guard = none) (x y : Operand) (hop : o.op = Op.build 123 #[(0, x), (2, y)]) (hx : a.eval x = .int .i64 G) (hy : a.eval y = .map (some bm)) (hZ : Z = (wzL.toArray.setIfInBounds 0 (.int .i64 G)).setIfInBounds 2 (.map (some bm)))
    (hK : wpList Tryz.prog ops Q rest (a.put o.dst (.agg Z)) w) : wpList Tryz.prog ops Q (o :: rest) a w := by
  refine wpList_plain hg fun K' hK' => ?_
  have hrun := run_build_wheel G bm w
  rw [← hZ] at hrun
  have he : (execOp a.eval o).run Tryz.prog w = .ok (.value (.agg Z)) w := by
    unfold execOp
    rw [hop]
    dsimp only
    simp only [Sem.run_bind, List.map_toArray, List.map_cons, List.map_nil, hx, hy, hrun, Result.andThen_ok, Sem.run_pure]
  unfold Oper.wp
  rw [he]
  exact hK' _ _ hK
theorem wheel_new (G : Int) (w : World) (h : 1 ≤ G ∧ G ≤ 1024) : Calls Tryz.prog 40 #[.int .i64 G] w fun e w' => ∃ g bm Z, e = .returned (.pointer (some ⟨g, 0, none⟩)) ∧ WhAt w' w.heap.size g bm G 0 [] (fun _ => []) (fun _ => none) (fun _ => 0) (fun _ => 0) Z ∧ Below w.heap.size w w' := by
  have d1 : decide (G < 1) = false := by simp; omega
  have d2 : decide (1024 < G) = false := by simp; omega
  have hmm := @run_makeMap Tryz.prog
  obtain ⟨Z, hZ⟩ : ∃ Z, Z = (wzL.toArray.setIfInBounds 0 (.int .i64 G)).setIfInBounds 2 (.map (some w.heap.size)) := ⟨_, rfl⟩
  obtain ⟨e1, e2, e3, e4, e5, e6⟩ := whZ G w.heap.size Z hZ
  have hb : Below w.heap.size w ((w.alloc (.map #[] 0)).alloc (.cells Z 123)) := below_alloc (below_alloc (Below.refl _ _) _) _
  have hB : Blk ((w.alloc (.map #[] 0)).alloc (.cells Z 123)) (w.heap.size + 1) 123 Z := by
    have := Blk.new (w.alloc (.map #[] 0)) 123 Z
    rwa [World.size_alloc] at this
  have hM : Imap ((w.alloc (.map #[] 0)).alloc (.cells Z 123)) w.heap.size [] := by
    have h0 : Imap (w.alloc (.map #[] 0)) w.heap.size [] := Imap.of (World.ownsMap_made w _ _ _)
    exact h0.call (below_alloc (Below.refl _ _) _)
  replace hZ := Lib.hid hZ
  go_enter Tryz.func40, Tryz.ntmps40
  go_wp2_with (refine wpList_build_wheel rfl _ _ rfl rfl rfl hZ.out ?_)
  go_ret
  exact ⟨w.heap.size + 1, w.heap.size, Z, rfl, ⟨hB, e1, e2, e3, e4, e5, fun k _ => OwnA.nil _ _, (fun k j _ _ _ b hi => by obtain ⟨a, ha, _⟩ := hi; cases ha), e6, hM, by omega, Nat.le_refl _⟩, hb⟩
end Go.Proofs.YtbmmklgkbbbopaaGreat

namespace Go.Proofs.YtbmmklgkbbbopaaGreat
open Go Go.RowKit Go.Deep Go.Maps Go.ChangeMaps

def setM (cs : Array Value) : Nat → List Value → Array Value
  | _, [] => cs
  | o, v :: r => setM (cs.setIfInBounds o v) (o + 1) r
theorem setM_size : ∀ (vs : List Value) (cs : Array Value) (o : Nat), (setM cs o vs).size = cs.size
  | [], _, _ => rfl
  | v :: r, cs, o => by
    unfold setM
    rw [setM_size r, Array.size_setIfInBounds]
theorem setM_out : ∀ (vs : List Value) (cs : Array Value) (o j : Nat), j < o → (setM cs o vs)[j]? = cs[j]?
  | [], _, _, _, _ => rfl
  | v :: r, cs, o, j, h => by
    unfold setM
    rw [setM_out r _ (o + 1) j (by omega), Array.getElem?_setIfInBounds_ne (by omega)]
theorem setM_in : ∀ (vs : List Value) (cs : Array Value) (o j : Nat), o + vs.length ≤ cs.size → j < vs.length → (setM cs o vs)[o + j]? = vs[j]?
  | v :: r, cs, o, 0, h, _ => by
    simp at h
    unfold setM
    rw [setM_out r _ (o + 1) (o + 0) (by omega), Nat.add_zero, Array.getElem?_setIfInBounds_self_of_lt (by omega)]
    rfl
  | v :: r, cs, o, j + 1, h, hj => by
    simp at h hj
    unfold setM
    rw [show o + (j + 1) = (o + 1) + j by omega, setM_in r _ (o + 1) j (by rw [Array.size_setIfInBounds]; omega) hj]
    rfl
theorem blk_setCells {b : Nat} {t : TypeId} : ∀ (vs : List Value) (o : Nat) {w : World} {cs : Array Value}, Blk w b t cs → Blk (w.setCells b o vs) b t (setM cs o vs)
  | [], _, _, _, h => h
  | v :: r, o, _, _, h => blk_setCells r (o + 1) (h.set_ o v)
theorem chg_setCells {b : Nat} : ∀ (vs : List Value) (o : Nat) (w : World), Chg (· = b) w (w.setCells b o vs)
  | [], _, w => Chg.refl _ w
  | v :: r, o, w => by
    have h1 : Chg (· = b) w (w.setCell ⟨b, o, none⟩ v) := Chg.setCell (F := (· = b)) (p := ⟨b, o, none⟩) (Chg.refl _ w) (fun _ => rfl) v
    exact h1.trans (chg_setCells r (o + 1) _) (fun _ _ h => h)
/-- A row without its i-th number, in place. -/
theorem own_erase {w : World} {base g cap : Nat} {L : List Int} (h : OwnI w base (some ⟨g, 0, none⟩) cap L) {i : Nat} (hi : i < L.length) :
    OwnI (w.setCells g 0 ((L.take i ++ L.drop (i + 1) ++ List.replicate 1 0).map (Value.int .i64))) base (some ⟨g, 0, none⟩) cap (L.eraseIdx i) := by
  rw [List.eraseIdx_eq_take_drop_succ]
  unfold OwnI OwnA at h ⊢
  obtain ⟨_, h2⟩ := h
  rcases h2 with ⟨h2, _⟩ | ⟨g', cap', cur, hv, hb, hh, hc, hm, hs, hx⟩
  · cases h2
  · simp only [Value.slice.injEq, Option.some.injEq, Addr.mk.injEq, and_true, true_and] at hv
    obtain ⟨rfl, rfl⟩ := hv
    have hlen : (L.take i ++ L.drop (i + 1)).length = L.length - 1 := by
      rw [List.length_append, List.length_take, List.length_drop]
      omega
    obtain ⟨E, hE⟩ : ∃ E, L.take i ++ L.drop (i + 1) = E := ⟨_, rfl⟩
    rw [hE] at hlen ⊢
    have hB : Blk w g 3 cur := hh
    have hB2 := blk_setCells ((E ++ List.replicate 1 0).map (Value.int .i64)) 0 hB
    refine ⟨by rw [icell_map, List.length_map, Nat.mul_one], .inr ⟨g, cap, _, rfl, hb, hB2, by omega, hm, by rw [setM_size]; exact hs, ?_⟩⟩
    rw [icell_map]
    apply List.ext_getElem?
    intro j
    rw [List.getElem?_take]
    by_cases hj : j < E.length * 1
    · rw [if_pos hj]
      have hvl : ((E ++ List.replicate 1 0).map (Value.int .i64)).length = E.length + 1 := by simp
      have := setM_in ((E ++ List.replicate 1 0).map (Value.int .i64)) cur 0 j (by rw [hvl]; omega) (by rw [hvl]; omega)
      rw [Nat.zero_add] at this
      rw [Array.getElem?_toList, this, List.getElem?_map, List.getElem?_map, List.getElem?_append_left (by omega)]
    · rw [if_neg hj, List.getElem?_eq_none]
      rw [List.length_map]
      omega
end Go.Proofs.YtbmmklgkbbbopaaGreat

namespace Go.Proofs.YtbmmklgkbbbopaaGreat
open Go Go.RowKit Go.Deep

theorem hdrew (w : World) : w.drew.heap = w.heap := rfl
theorem blk6_facts {w1 W w4 : World} {g : Nat} {t : TypeId} {c0 c1 c2 c3 c4 c5 : Value} (h : Blk w1 g t #[c0, c1, c2, c3, c4, c5]) (hW : W.heap = w1.heap) (hb : Below W.heap.size W w4) :
    (w4.cell? ⟨g, 0, none⟩ = some c0 ∧ w4.cell? ⟨g, 1, none⟩ = some c1 ∧ w4.cell? ⟨g, 2, none⟩ = some c2 ∧ w4.cell? ⟨g, 3, none⟩ = some c3 ∧ w4.cell? ⟨g, 4, none⟩ = some c4 ∧ w4.cell? ⟨g, 5, none⟩ = some c5) ∧
      w4.frozen? ⟨g, 0, none⟩ = false ∧ w4.frozen? ⟨g, 1, none⟩ = false ∧ w4.frozen? ⟨g, 2, none⟩ = false ∧ w4.frozen? ⟨g, 3, none⟩ = false ∧ w4.frozen? ⟨g, 4, none⟩ = false ∧ w4.frozen? ⟨g, 5, none⟩ = false := by
  have h2 : Blk W g t #[c0, c1, c2, c3, c4, c5] := by unfold Blk at h ⊢; rw [hW]; exact h
  have h3 := h2.call hb
  exact ⟨⟨h3.cell 0, h3.cell 1, h3.cell 2, h3.cell 3, h3.cell 4, h3.cell 5⟩, h3.frozen 0, h3.frozen 1, h3.frozen 2, h3.frozen 3, h3.frozen 4, h3.frozen 5⟩
theorem elem6_facts {w1 : World} {s v0 v1 v2 v3 v4 v5 : Value} {x a0 a1 a2 a3 a4 a5 : Addr} (hs : w1.cell? x = some s)
    (h0 : w1.cell? a0 = some v0) (h1 : w1.cell? a1 = some v1) (h2 : w1.cell? a2 = some v2) (h3 : w1.cell? a3 = some v3) (h4 : w1.cell? a4 = some v4) (h5 : w1.cell? a5 = some v5) (W w4 : World) (hW : W.heap = w1.heap) (hb : Below W.heap.size W w4) :
    w4.cell? x = some s ∧ w4.cell? a0 = some v0 ∧ w4.cell? a1 = some v1 ∧ w4.cell? a2 = some v2 ∧ w4.cell? a3 = some v3 ∧ w4.cell? a4 = some v4 ∧ w4.cell? a5 = some v5 := by
  have key : ∀ {a : Addr} {v : Value}, w1.cell? a = some v → w4.cell? a = some v := fun {a v} h => by
    have hl := block_lt_of_cell h
    rw [World.cell?_of_block (w := w1) (w' := w4) (a := a) (by rw [hb.block a.block (by rw [hW]; exact hl), hW])]
    exact h
  exact ⟨key hs, key h0, key h1, key h2, key h3, key h4, key h5⟩theorem below_drw {w w1 : World} {B : Nat} (h : Below B w w1) : Below B w w1.drew := h.drew
theorem set6 {w w1 : World} {B g : Nat} {a0 a1 a2 a3 a4 a5 : Value} (h : Below B w w1) (hg : B ≤ g) :
    Below B w ((((((w1.setCell ⟨g, 0, none⟩ a0).setCell ⟨g, 1, none⟩ a1).setCell ⟨g, 2, none⟩ a2).setCell ⟨g, 3, none⟩ a3).setCell ⟨g, 4, none⟩ a4).setCell ⟨g, 5, none⟩ a5) :=
  (((((h.setCell (p := ⟨g, 0, none⟩) hg _).setCell (p := ⟨g, 1, none⟩) hg _).setCell (p := ⟨g, 2, none⟩) hg _).setCell (p := ⟨g, 3, none⟩) hg _).setCell (p := ⟨g, 4, none⟩) hg _).setCell (p := ⟨g, 5, none⟩) hg _
structure Bk where
  id : Int
  w : Int
  st : Int
  v : Bool
  hi : Int
  lo : Int
abbrev Bk.cells (b : Bk) : List Value := [.int .i64 b.id, .int .i64 b.w, .int .i64 b.st, .bool b.v, .int .u64 b.hi, .int .u64 b.lo]
abbrev Bk.val (b : Bk) : Value := .agg #[.int .i64 b.id, .int .i64 b.w, .int .i64 b.st, .bool b.v, .int .u64 b.hi, .int .u64 b.lo]
def bk0 : Bk := ⟨0, 0, 0, false, 0, 0⟩
theorem bk_at {w : World} {B : Nat} {A : Option Addr} {l : List Bk} (h : Reads w B 6 A l.length (l.flatMap Bk.cells)) {k : Nat} (hk : k < l.length) :
    ∃ ad b, A = some ad ∧ ad.block < B ∧ l[k]? = some b ∧ w.cell? (ad.add (k * 6)) = some (.int .i64 b.id) ∧ w.cell? ⟨(ad.add (k * 6)).block, (ad.add (k * 6)).off + 1, none⟩ = some (.int .i64 b.w) ∧
      w.cell? ⟨(ad.add (k * 6)).block, (ad.add (k * 6)).off + 2, none⟩ = some (.int .i64 b.st) ∧ w.cell? ⟨(ad.add (k * 6)).block, (ad.add (k * 6)).off + 3, none⟩ = some (.bool b.v) ∧
      w.cell? ⟨(ad.add (k * 6)).block, (ad.add (k * 6)).off + 4, none⟩ = some (.int .u64 b.hi) ∧ w.cell? ⟨(ad.add (k * 6)).block, (ad.add (k * 6)).off + 5, none⟩ = some (.int .u64 b.lo) := by
  obtain ⟨ad, rfl, hb, hc⟩ := h.rec_at Bk.cells (fun _ => rfl) hk
  exact ⟨ad, l[k], rfl, hb, List.getElem?_eq_getElem hk, hc 0 _ rfl, hc 1 _ rfl, hc 2 _ rfl, hc 3 _ rfl, hc 4 _ rfl, hc 5 _ rfl⟩

def drawB (l : List Bk) (x : Nat) : Bk := if l.length = 0 then bk0 else l.getD (scaleI x l.length).toNat bk0
def drawOk (l : List Bk) : Bool := decide (l.length ≠ 0)
theorem scale_nat (x n : Nat) (hx : x < 18446744073709551616) (h1 : 1 ≤ n) (h2 : n ≤ 2147483648) : ∃ k : Nat, scaleI x n = (k : Int) ∧ k < n := by
  refine ⟨(x * n / 18446744073709551616 : Nat), ?_, scale_lt x n hx h1⟩
  unfold scaleI
  rw [if_neg (by omega)]
  simp

end Go.Proofs.YtbmmklgkbbbopaaGreat

namespace Go.Proofs.YtbmmklgkbbbopaaGreat
open Go Go.RowKit Go.Deep

theorem still_of {P : Program} {f : FuncId} {args : Array Value} {w : World} {v : Value} (h : Calls P f args w fun e w' => e = .returned v ∧ w = w') : Calls P f args w fun e w'' => e = .returned v ∧ w'' = w := h.mono fun _ _ ⟨h1, h2⟩ => ⟨h1, h2.symm⟩
def betterB (M : LM) (a b : Bk) : Bk := if lessB (lmGet M b.id) b.w b.id (lmGet M a.id) a.w a.id then b else a
def bkWf (b : Bk) : Prop := (Lit.int .i64 b.id).wf = true
end Go.Proofs.YtbmmklgkbbbopaaGreat

namespace Go.Proofs.YtbmmklgkbbbopaaGreat
open Go Go.RowKit Go.Deep

def foldB (M : LM) (l : List Bk) : Bk := match l with | [] => bk0 | x :: r => r.foldl (betterB M) x
theorem foldB_one (M : LM) (x : Bk) : foldB M [x] = x := rfl
theorem foldB_snoc (M : LM) (l : List Bk) (y : Bk) (h : l ≠ []) : foldB M (l ++ [y]) = betterB M (foldB M l) y := by
  cases l with
  | nil => exact absurd rfl h
  | cons x r => simp [foldB, List.foldl_append]

theorem blk_set6 {w : World} {g : Nat} {t : TypeId} {c0 c1 c2 c3 c4 c5 a0 a1 a2 a3 a4 a5 : Value} (h : Blk w g t #[c0, c1, c2, c3, c4, c5]) :
    Blk ((((((w.setCell ⟨g, 0, none⟩ a0).setCell ⟨g, 1, none⟩ a1).setCell ⟨g, 2, none⟩ a2).setCell ⟨g, 3, none⟩ a3).setCell ⟨g, 4, none⟩ a4).setCell ⟨g, 5, none⟩ a5) g t #[a0, a1, a2, a3, a4, a5] := by
  simpa using (((((h.set_ 0 a0).set_ 1 a1).set_ 2 a2).set_ 3 a3).set_ 4 a4).set_ 5 a5
theorem blk_far6 {w : World} {g g' : Nat} {t : TypeId} {cs : Array Value} {a0 a1 a2 a3 a4 a5 : Value} (h : Blk w g' t cs) (hne : g' ≠ g) :
    Blk ((((((w.setCell ⟨g, 0, none⟩ a0).setCell ⟨g, 1, none⟩ a1).setCell ⟨g, 2, none⟩ a2).setCell ⟨g, 3, none⟩ a3).setCell ⟨g, 4, none⟩ a4).setCell ⟨g, 5, none⟩ a5) g' t cs :=
  (((((h.far (p := ⟨g, 0, none⟩) hne a0).far (p := ⟨g, 1, none⟩) hne a1).far (p := ⟨g, 2, none⟩) hne a2).far (p := ⟨g, 3, none⟩) hne a3).far (p := ⟨g, 4, none⟩) hne a4).far (p := ⟨g, 5, none⟩) hne a5
theorem Blk.six {w : World} {g : Nat} {t : TypeId} {c0 c1 c2 c3 c4 c5 : Value} (h : Blk w g t #[c0, c1, c2, c3, c4, c5]) :
    (w.cell? ⟨g, 0, none⟩ = some c0 ∧ w.cell? ⟨g, 1, none⟩ = some c1 ∧ w.cell? ⟨g, 2, none⟩ = some c2 ∧ w.cell? ⟨g, 3, none⟩ = some c3 ∧ w.cell? ⟨g, 4, none⟩ = some c4 ∧ w.cell? ⟨g, 5, none⟩ = some c5) ∧
      w.frozen? ⟨g, 0, none⟩ = false ∧ w.frozen? ⟨g, 1, none⟩ = false ∧ w.frozen? ⟨g, 2, none⟩ = false ∧ w.frozen? ⟨g, 3, none⟩ = false ∧ w.frozen? ⟨g, 4, none⟩ = false ∧ w.frozen? ⟨g, 5, none⟩ = false :=
  ⟨⟨h.cell 0, h.cell 1, h.cell 2, h.cell 3, h.cell 4, h.cell 5⟩, h.frozen 0, h.frozen 1, h.frozen 2, h.frozen 3, h.frozen 4, h.frozen 5⟩
abbrev Bk.arr (b : Bk) : Array Value := #[.int .i64 b.id, .int .i64 b.w, .int .i64 b.st, .bool b.v, .int .u64 b.hi, .int .u64 b.lo]
theorem foldB_take (M : LM) (l : List Bk) (k : Nat) (x : Bk) (h : l[k]? = some x) : foldB M (l.take (k + 1)) = if k = 0 then x else betterB M (foldB M (l.take k)) x := by
  obtain ⟨hk, rfl⟩ := List.getElem?_eq_some_iff.1 h
  rw [List.take_succ_eq_append_getElem hk]
  by_cases h0 : k = 0
  · subst h0; simp [foldB]
  · rw [if_neg h0, foldB_snoc]
    intro e
    have := congrArg List.length e
    rw [List.length_take, List.length_nil] at this
    omega
theorem betterB_wf {M : LM} {a b : Bk} (ha : bkWf a) (hb : bkWf b) : bkWf (betterB M a b) := by
  unfold betterB; split <;> assumption
theorem foldB_wf {M : LM} {l : List Bk} (h : ∀ x ∈ l, bkWf x) : bkWf (foldB M l) := by
  cases l with
  | nil => show bkWf bk0; unfold bkWf; decide
  | cons x r =>
    have key : ∀ (r : List Bk) (x : Bk), bkWf x → (∀ y ∈ r, bkWf y) → bkWf (r.foldl (betterB M) x) := by
      intro r
      induction r with
      | nil => intro x hx _; exact hx
      | cons y r ih => intro x hx hr; exact ih _ (betterB_wf hx (hr y (by simp))) fun z hz => hr z (by simp [hz])
    exact key r x (h x (by simp)) fun y hy => h y (by simp [hy])

end Go.Proofs.YtbmmklgkbbbopaaGreat

namespace Go.Proofs.YtbmmklgkbbbopaaGreat
open Go Go.RowKit Go.Deep

def drawnL (l : List Bk) (ds : List Int) : List Bk := if l.length = 0 then [] else ds.map fun d => drawB l d.toNat
theorem drawnL_len (l : List Bk) (ds : List Int) : (drawnL l ds).length ≤ ds.length := by unfold drawnL; split <;> simp
theorem drawB_mem {l : List Bk} {x : Nat} (hx : x < 18446744073709551616) (h : l.length ≠ 0) (hl : l.length ≤ 1000000) : drawB l x ∈ l := by
  obtain ⟨k, hk, hkl⟩ := scale_nat x l.length hx (by omega) (by omega)
  unfold drawB
  rw [if_neg h, hk, Int.toNat_natCast, List.getD_eq_getElem?_getD, List.getElem?_eq_getElem hkl]
  exact List.getElem_mem hkl
theorem drawnL_succ (l : List Bk) (ds : List Int) (k : Nat) (hk : k < ds.length) : drawnL l (ds.take (k + 1)) = if l.length = 0 then [] else drawnL l (ds.take k) ++ [drawB l (ds.getD k 0).toNat] := by
  unfold drawnL
  rw [List.take_succ_eq_append_getElem hk, List.getD_eq_getElem?_getD, List.getElem?_eq_getElem hk]
  split
  · rfl
  · rw [List.map_append]; rfl
theorem Reads.intk_at {w : World} {B : Nat} {A : Option Addr} {xs : List Int} {k : IntKind} {i : Nat} (h : Reads w B 1 A xs.length (xs.map (.int k))) (hi : i < xs.length) : ∃ ad, A = some ad ∧ ad.block < B ∧ w.cell? (ad.add i) = some (.int k (xs.getD i 0)) := h.int_at hi

end Go.Proofs.YtbmmklgkbbbopaaGreat

namespace Go.Proofs.YtbmmklgkbbbopaaGreat
open Go Go.RowKit Go.Deep

end Go.Proofs.YtbmmklgkbbbopaaGreat

namespace Go.Proofs.YtbmmklgkbbbopaaGreat
open Go Go.RowKit Go.Deep

end Go.Proofs.YtbmmklgkbbbopaaGreat

namespace Go.Proofs.YtbmmklgkbbbopaaGreat
open Go Go.RowKit Go.Deep

def bkAt (l : List Bk) (k : Nat) : Prop := ∀ b, l[k]? = some b → 1 ≤ b.id ∧ b.id ≤ 65535 ∧ 0 ≤ b.w ∧ b.w ≤ 1000 ∧ (0 < k → ∀ a, l[k - 1]? = some a → a.id < b.id)
def bkRight (l : List Bk) : Prop := l.length ≤ 64 ∧ ∀ k, bkAt l k
def RightR (l : List Bk) (w : World) (e : Ending) (w' : World) : Prop := ∃ r n, e = .returned (.bool r) ∧ w' = w.drewN n ∧ (r = true → bkRight l)

def bkLaw (m : Nat) (l : List Bk) : Prop := l.length ≤ m ∧ bkRight l ∧ ∀ b ∈ l, 1 ≤ b.w
def LawR (m : Nat) (l : List Bk) (w : World) (e : Ending) (w' : World) : Prop := ∃ r n, e = .returned (.bool r) ∧ w' = w.drewN n ∧ (r = true → bkLaw m l)
end Go.Proofs.YtbmmklgkbbbopaaGreat

namespace Go.Proofs.YtbmmklgkbbbopaaGreat
open Go Go.RowKit Go.Deep Go.ChangeShapes Go.WideShapes

theorem imap_cell {w : World} {b : Nat} {M : LM} (h : Imap w b M) {a : Addr} {v : Value} (ha : w.cell? a = some v) : a.block ≠ b := by
  rintro rfl
  obtain ⟨es, clock, h2, _⟩ := h
  simp [World.cell?, h2] at ha
theorem Reads.chg_map {w w1 : World} {b n m : Nat} {M : LM} {A : Option Addr} {xs : List Value} (h : Reads w w.heap.size m A n xs) (hm : Imap w b M) (hm0 : 0 < m) (k : Chg (· = b) w w1) : Reads w1 w1.heap.size m A n xs := by
  refine ⟨h.1, fun hn => ?_⟩
  obtain ⟨ad, rfl, hb, hc⟩ := h.2 hn
  have hx : 0 < xs.length := by rw [h.1]; exact Nat.mul_pos hn hm0
  have h0 := hc 0 _ (List.getElem?_eq_getElem hx)
  have hne : ad.block ≠ b := by have := imap_cell hm h0; rwa [block_of_add] at this
  refine ⟨ad, rfl, Nat.lt_of_lt_of_le hb k.size, fun j u hu => ?_⟩
  rw [World.cell?_of_block (w := w) (a := ad.add j) (by rw [block_of_add]; exact k.block hb hne)]
  exact hc j u hu
structure Stp where
  kind : Int
  id : Int
  n : Int
abbrev Stp.cells (s : Stp) : List Value := [.int .i64 s.kind, .int .i64 s.id, .int .i64 s.n]
def stpWf (s : Stp) : Prop := (Lit.int .i64 s.id).wf = true
theorem stp_at {w : World} {B : Nat} {A : Option Addr} {l : List Stp} (h : Reads w B 3 A l.length (l.flatMap Stp.cells)) {k : Nat} (hk : k < l.length) :
    ∃ ad s, A = some ad ∧ ad.block < B ∧ l[k]? = some s ∧ w.cell? (ad.add (k * 3)) = some (.int .i64 s.kind) ∧ w.cell? ⟨(ad.add (k * 3)).block, (ad.add (k * 3)).off + 1, none⟩ = some (.int .i64 s.id) ∧ w.cell? ⟨(ad.add (k * 3)).block, (ad.add (k * 3)).off + 2, none⟩ = some (.int .i64 s.n) := by
  obtain ⟨ad, rfl, hb, hc⟩ := h.rec_at Stp.cells (fun _ => rfl) hk
  exact ⟨ad, l[k], rfl, hb, List.getElem?_eq_getElem hk, hc 0 _ rfl, hc 1 _ rfl, hc 2 _ rfl⟩
def lmRun (l : List Stp) : LM := l.foldl (fun M s => lmAdd M s.id s.n) []
theorem lmRun_succ (l : List Stp) (k : Nat) (s : Stp) (h : l[k]? = some s) : lmRun (l.take (k + 1)) = lmAdd (lmRun (l.take k)) s.id s.n := by
  obtain ⟨hk, rfl⟩ := List.getElem?_eq_some_iff.1 h
  unfold lmRun
  rw [List.take_succ_eq_append_getElem hk, List.foldl_append]
  rfl
theorem lmRun_facts (l : List Stp) : lmPos (lmRun l) ∧ lmSorted (lmRun l) ∧ (lmRun l).length ≤ l.length := by
  unfold lmRun
  have key : ∀ (l : List Stp) (M : LM), lmPos M → lmSorted M → lmPos (l.foldl (fun M s => lmAdd M s.id s.n) M) ∧ lmSorted (l.foldl (fun M s => lmAdd M s.id s.n) M) ∧ (l.foldl (fun M s => lmAdd M s.id s.n) M).length ≤ M.length + l.length := by
    intro l
    induction l with
    | nil => intro M h1 h2; exact ⟨h1, h2, by simp⟩
    | cons s l ih =>
      intro M h1 h2
      obtain ⟨a, b, c⟩ := ih (lmAdd M s.id s.n) (lmAdd_pos h1 _ _) (lmAdd_sorted h2 _ _)
      have := lmAdd_length M s.id s.n
      exact ⟨a, b, by simp only [List.foldl_cons, List.length_cons]; omega⟩
  have := key l [] (fun x hx => by simp at hx) (by simp [lmSorted])
  exact ⟨this.1, this.2.1, by simpa using this.2.2⟩
theorem bkLaw_wf {m : Nat} {l : List Bk} (h : bkLaw m l) : ∀ x ∈ l, bkWf x := by
  intro x hx
  obtain ⟨j, hj, rfl⟩ := List.getElem_of_mem hx
  have := h.2.1.2 j _ (List.getElem?_eq_getElem hj)
  unfold bkWf
  exact wf_i64_mk (by omega) (by omega)

end Go.Proofs.YtbmmklgkbbbopaaGreat

namespace Go.Proofs.YtbmmklgkbbbopaaGreat
open Go Go.RowKit Go.Deep Go.ChangeShapes Go.WideShapes

/-- One pick: kind, second, tuple, two draws, a policy. -/
structure Pk where
  kd : Int
  sec : Bool
  tu : Tup
  a : Nat
  b : Nat
  pk : Int
  ps : Int
abbrev Pk.cells (x : Pk) : List Value := [.int .i64 x.kd, .bool x.sec, .int .i64 x.tu.p, .bool x.tu.v, .int .u64 x.tu.hi, .int .u64 x.tu.lo, .bool x.tu.v', .int .u64 x.tu.hi', .int .u64 x.tu.lo', .int .i64 x.tu.sp, .int .i64 x.tu.dp, .int .u64 x.a, .int .u64 x.b, .int .i64 x.pk, .int .i64 x.ps]
def pkWf (x : Pk) : Prop := x.tu.hi < 18446744073709551616 ∧ x.tu.lo < 18446744073709551616 ∧ x.tu.hi' < 18446744073709551616 ∧ x.tu.lo' < 18446744073709551616 ∧ x.a < 18446744073709551616 ∧ x.b < 18446744073709551616
@[reducible] def tupFTp : FT := .pair (.int .i64) (.pair adrFT (.pair adrFT (.pair (.int .i64) (.pair (.int .i64) .unit))))
@[reducible] def pkFT : FT := .pair (.int .i64) (.pair .bool (.pair tupFTp (.pair (.int .u64) (.pair (.int .u64) (.pair (.pair (.int .i64) (.pair (.int .i64) .unit)) .unit)))))
def tupOfp (x : tupFTp.Val) : Tup := ⟨x.1, x.2.1.1, x.2.1.2.1.toNat, x.2.1.2.2.1.toNat, x.2.2.1.1, x.2.2.1.2.1.toNat, x.2.2.1.2.2.1.toNat, x.2.2.2.1, x.2.2.2.2.1⟩
def pkOf (x : pkFT.Val) : Pk := ⟨x.1, x.2.1, tupOfp x.2.2.1, x.2.2.2.1.toNat, x.2.2.2.2.1.toNat, x.2.2.2.2.2.1.1, x.2.2.2.2.2.1.2.1⟩
theorem pk_cells (w : World) (x : pkFT.Val) (es : List Value) (h : Rep w pkFT x es) : es = (pkOf x).cells ∧ pkWf (pkOf x) := by
  obtain ⟨a0, a1, ⟨x0, ⟨y0, y1, y2, ⟨⟩⟩, ⟨z0, z1, z2, ⟨⟩⟩, x3, x4, ⟨⟩⟩, a2, a3, ⟨b0, b1, ⟨⟩⟩, ⟨⟩⟩ := x
  obtain ⟨_, _, rfl, ⟨rfl, _⟩, _, _, rfl, rfl, _, _, rfl, ⟨_, _, rfl, ⟨rfl, _⟩, _, _, rfl, ⟨_, _, rfl, rfl, _, _, rfl, ⟨rfl, k1⟩, _, _, rfl, ⟨rfl, k2⟩, rfl⟩, _, _, rfl, ⟨_, _, rfl, rfl, _, _, rfl, ⟨rfl, k3⟩, _, _, rfl, ⟨rfl, k4⟩, rfl⟩, _, _, rfl, ⟨rfl, _⟩, _, _, rfl, ⟨rfl, _⟩, rfl⟩, _, _, rfl, ⟨rfl, k5⟩, _, _, rfl, ⟨rfl, k6⟩, _, _, rfl, ⟨_, _, rfl, ⟨rfl, _⟩, _, _, rfl, ⟨rfl, _⟩, rfl⟩, rfl⟩ := h
  obtain ⟨m1, rfl, h1⟩ := wf_u64 k1
  obtain ⟨m2, rfl, h2⟩ := wf_u64 k2
  obtain ⟨m3, rfl, h3⟩ := wf_u64 k3
  obtain ⟨m4, rfl, h4⟩ := wf_u64 k4
  obtain ⟨m5, rfl, h5⟩ := wf_u64 k5
  obtain ⟨m6, rfl, h6⟩ := wf_u64 k6
  refine ⟨rfl, ?_⟩
  simp [pkWf, pkOf, tupOfp, h1, h2, h3, h4, h5, h6]
section
variable {H : Type} {enc : TypeId × Value → H}
theorem open_ft24 {P : Program} {t : TypeId} {v : Value} {w : World} {d : DataW H} {p : List MemPlace} (ft : FT) (hfit : fitsT P 24 t ft = true)
    (h : DataW.Trod enc P w 0 (fun _ => true) true t v d p) : ∃ x : ft.Val, Rep w ft x v.cells.toList := by
  obtain ⟨fuel, hf⟩ := h
  exact rep_of_trod 0 _ _ 24 t ft hfit fuel _ _ hf
end
end Go.Proofs.YtbmmklgkbbbopaaGreat

namespace Go.Proofs.YtbmmklgkbbbopaaGreat
open Go Go.RowKit Go.Deep Go.ChangeShapes Go.WideShapes

/-- One step: kind, tuple, slot, a number, a backend, a generation's lowest bits. -/
structure TStp where
  kd : Int
  tu : Tup
  sl : Int
  n : Int
  bk : Int
  low : Int
  bt : Int
abbrev TStp.cells (x : TStp) : List Value := [.int .i64 x.kd, .int .i64 x.tu.p, .bool x.tu.v, .int .u64 x.tu.hi, .int .u64 x.tu.lo, .bool x.tu.v', .int .u64 x.tu.hi', .int .u64 x.tu.lo', .int .i64 x.tu.sp, .int .i64 x.tu.dp, .int .i64 x.sl, .int .i64 x.n, .int .i64 x.bk, .int .u64 x.low, .int .i64 x.bt]
def tstpWf (x : TStp) : Prop := 0 ≤ x.low ∧ x.low < 18446744073709551616
@[reducible] def tstpFT : FT := .pair (.int .i64) (.pair tupFTp (.pair (.int .i64) (.pair (.int .i64) (.pair (.int .i64) (.pair (.int .u64) (.pair (.int .i64) .unit))))))
def tstpOf (x : tstpFT.Val) : TStp := ⟨x.1, tupOfp x.2.1, x.2.2.1, x.2.2.2.1, x.2.2.2.2.1, x.2.2.2.2.2.1, x.2.2.2.2.2.2.1⟩
theorem tstp_cells (w : World) (x : tstpFT.Val) (es : List Value) (h : Rep w tstpFT x es) : es = (tstpOf x).cells ∧ tstpWf (tstpOf x) := by
  obtain ⟨a0, ⟨x0, ⟨y0, y1, y2, ⟨⟩⟩, ⟨z0, z1, z2, ⟨⟩⟩, x3, x4, ⟨⟩⟩, a2, a3, a4, a5, a6, ⟨⟩⟩ := x
  obtain ⟨_, _, rfl, ⟨rfl, _⟩, _, _, rfl, ⟨_, _, rfl, ⟨rfl, _⟩, _, _, rfl, ⟨_, _, rfl, rfl, _, _, rfl, ⟨rfl, k1⟩, _, _, rfl, ⟨rfl, k2⟩, rfl⟩, _, _, rfl, ⟨_, _, rfl, rfl, _, _, rfl, ⟨rfl, k3⟩, _, _, rfl, ⟨rfl, k4⟩, rfl⟩, _, _, rfl, ⟨rfl, _⟩, _, _, rfl, ⟨rfl, _⟩, rfl⟩, _, _, rfl, ⟨rfl, _⟩, _, _, rfl, ⟨rfl, _⟩, _, _, rfl, ⟨rfl, _⟩, _, _, rfl, ⟨rfl, k5⟩, _, _, rfl, ⟨rfl, _⟩, rfl⟩ := h
  obtain ⟨m1, rfl, h1⟩ := wf_u64 k1
  obtain ⟨m2, rfl, h2⟩ := wf_u64 k2
  obtain ⟨m3, rfl, h3⟩ := wf_u64 k3
  obtain ⟨m4, rfl, h4⟩ := wf_u64 k4
  obtain ⟨m5, rfl, h5⟩ := wf_u64 k5
  exact ⟨rfl, by show (0 : Int) ≤ (m5 : Int); omega, by show (m5 : Int) < 18446744073709551616; omega⟩
section
variable {H : Type} {enc : TypeId × Value → H}
end
theorem tstp_at {w : World} {B : Nat} {A : Option Addr} {l : List TStp} (h : Reads w B 15 A l.length (l.flatMap TStp.cells)) {k : Nat} (hk : k < l.length) :
    ∃ ad s, A = some ad ∧ ad.block < B ∧ l[k]? = some s ∧ ∀ j u, (TStp.cells s)[j]? = some u → w.cell? ((ad.add (k * 15)).add j) = some u := by
  obtain ⟨ad, rfl, hb, hc⟩ := h.rec_at TStp.cells (fun _ => rfl) hk
  exact ⟨ad, l[k], rfl, hb, List.getElem?_eq_getElem hk, hc⟩
theorem tstp_at15 {w : World} {B : Nat} {A : Option Addr} {l : List TStp} (h : Reads w B 15 A l.length (l.flatMap TStp.cells)) {k : Nat} (hk : k < l.length) :
    ∃ ad s, A = some ad ∧ ad.block < B ∧ l[k]? = some s ∧ (w.cell? (ad.add (k * 15)) = some (.int .i64 s.kd) ∧ w.cell? ⟨(ad.add (k * 15)).block, (ad.add (k * 15)).off + 1, none⟩ = some (.int .i64 s.tu.p) ∧ w.cell? ⟨(ad.add (k * 15)).block, (ad.add (k * 15)).off + 2, none⟩ = some (.bool s.tu.v) ∧
      w.cell? ⟨(ad.add (k * 15)).block, (ad.add (k * 15)).off + 3, none⟩ = some (.int .u64 s.tu.hi) ∧ w.cell? ⟨(ad.add (k * 15)).block, (ad.add (k * 15)).off + 4, none⟩ = some (.int .u64 s.tu.lo) ∧ w.cell? ⟨(ad.add (k * 15)).block, (ad.add (k * 15)).off + 5, none⟩ = some (.bool s.tu.v') ∧
      w.cell? ⟨(ad.add (k * 15)).block, (ad.add (k * 15)).off + 6, none⟩ = some (.int .u64 s.tu.hi') ∧ w.cell? ⟨(ad.add (k * 15)).block, (ad.add (k * 15)).off + 7, none⟩ = some (.int .u64 s.tu.lo') ∧ w.cell? ⟨(ad.add (k * 15)).block, (ad.add (k * 15)).off + 8, none⟩ = some (.int .i64 s.tu.sp) ∧
      w.cell? ⟨(ad.add (k * 15)).block, (ad.add (k * 15)).off + 9, none⟩ = some (.int .i64 s.tu.dp) ∧ w.cell? ⟨(ad.add (k * 15)).block, (ad.add (k * 15)).off + 10, none⟩ = some (.int .i64 s.sl) ∧ w.cell? ⟨(ad.add (k * 15)).block, (ad.add (k * 15)).off + 11, none⟩ = some (.int .i64 s.n) ∧
      w.cell? ⟨(ad.add (k * 15)).block, (ad.add (k * 15)).off + 12, none⟩ = some (.int .i64 s.bk) ∧ w.cell? ⟨(ad.add (k * 15)).block, (ad.add (k * 15)).off + 13, none⟩ = some (.int .u64 s.low) ∧ w.cell? ⟨(ad.add (k * 15)).block, (ad.add (k * 15)).off + 14, none⟩ = some (.int .i64 s.bt)) := by
  obtain ⟨ad, s, e, hb, hs, hc⟩ := tstp_at h hk
  exact ⟨ad, s, e, hb, hs, hc 0 _ rfl, hc 1 _ rfl, hc 2 _ rfl, hc 3 _ rfl, hc 4 _ rfl, hc 5 _ rfl, hc 6 _ rfl, hc 7 _ rfl, hc 8 _ rfl, hc 9 _ rfl, hc 10 _ rfl, hc 11 _ rfl, hc 12 _ rfl, hc 13 _ rfl, hc 14 _ rfl⟩
end Go.Proofs.YtbmmklgkbbbopaaGreat
