/- eligible: Has. -/
import Derived.Test.YtkpkjpdhlmjchaaTwo
namespace Go.Proofs.Ytkpkjpdhlmjchaa
open Go Go.RowKit Go.Deep

def hasB (l : List Bk) (id : Int) : Bool := l.any fun b => b.id == id
def idxB (l : List Bk) (id : Int) : Int := match l.findIdx? (fun b => b.id == id) with | some i => (i : Int) | none => -1
theorem idxB_hit {l : List Bk} {id : Int} {k : Nat} {x : Bk} (h : ∀ j, j < k → ∀ b, l[j]? = some b → b.id ≠ id) (hx : l[k]? = some x) (he : x.id = id) : idxB l id = (k : Int) ∧ hasB l id = true := by
  obtain ⟨hk, rfl⟩ := List.getElem?_eq_some_iff.1 hx
  constructor
  · unfold idxB
    have : l.findIdx? (fun b => b.id == id) = some k := by
      rw [List.findIdx?_eq_some_iff_getElem]
      refine ⟨hk, by simpa using he, fun j hj => ?_⟩
      have := h j hj _ (List.getElem?_eq_getElem (by omega))
      simpa using this
    rw [this]
  · unfold hasB
    rw [List.any_eq_true]
    exact ⟨_, List.getElem_mem hk, by simpa using he⟩
theorem idxB_miss {l : List Bk} {id : Int} (h : ∀ (j : Nat) (b : Bk), l[j]? = some b → b.id ≠ id) : idxB l id = -1 ∧ hasB l id = false := by
  constructor
  · unfold idxB
    have : l.findIdx? (fun b => b.id == id) = none := by
      rw [List.findIdx?_eq_none_iff]
      intro x hx
      obtain ⟨j, hj, rfl⟩ := List.getElem_of_mem hx
      simpa using h j _ (List.getElem?_eq_getElem hj)
    rw [this]
  · unfold hasB
    rw [List.any_eq_false]
    intro x hx
    obtain ⟨j, hj, rfl⟩ := List.getElem_of_mem hx
    simpa using h j _ (List.getElem?_eq_getElem hj)
theorem idxB_has (l : List Bk) (id : Int) : decide (0 ≤ idxB l id) = hasB l id := by
  by_cases h : ∃ (k : Nat) (x : Bk), l[k]? = some x ∧ x.id = id ∧ ∀ j, j < k → ∀ b, l[j]? = some b → b.id ≠ id
  · obtain ⟨k, x, hx, he, hall⟩ := h
    obtain ⟨h1, h2⟩ := idxB_hit hall hx he
    rw [h1, h2]; simp
  · have hm : ∀ (j : Nat) (b : Bk), l[j]? = some b → b.id ≠ id := by
      intro j
      induction j using Nat.strongRecOn with
      | _ j ih =>
        intro b hb he
        exact h ⟨j, b, hb, he, fun i hi c hc => ih i hi c hc⟩
    obtain ⟨h1, h2⟩ := idxB_miss hm
    rw [h1, h2]; rfl

theorem with_any (id : Int) (w : World) : Calls Try.prog 83 #[.int .i64 id] w fun e w' => e = .returned (.func (Fn.func 113) #[] #[.pointer (some ⟨w.heap.size, 0, none⟩)]) ∧ w' = w.alloc (.cells #[.int .i64 id] 3) := by
  go_enter Try.func83, Try.ntmps83
  go_wp2_with fail
  go_ret
  exact ⟨rfl, rfl⟩
theorem with1_any (x : Bk) (id : Int) (gc : Nat) (w : World) (hc : w.cell? ⟨gc, 0, none⟩ = some (.int .i64 id)) : Calls Try.prog 113 #[x.val, .pointer (some ⟨gc, 0, none⟩)] w fun e w' => e = .returned (.bool (x.id == id)) ∧ Below w.heap.size w w' := by
  obtain ⟨xi, xw, xs, xv, xh, xo⟩ := x
  unfold Bk.val
  dsimp only
  have hlt := block_lt_of_cell hc
  go_enter Try.func113, Try.ntmps113
  go_wp2_with fail
  go_ret
  exact ⟨rfl, (by repeat (first | exact Below.refl _ _ | assumption | refine below_alloc ?_ _ | refine below_chain (by assumption) ?_ | refine below_call2 (by assumption) ?_ (by first | omega | (simp; done) | (simp; omega) | (simp [World.setCell]; omega)) | refine below_drewN ?_ _ | refine Below.drew ?_ | refine Below.alloc ?_ (by first | omega | (simp; done) | (simp; omega) | (simp [World.setCell]; omega)) _ | refine Below.setCell ?_ (by first | omega | (simp; done) | (simp; omega) | (simp [World.setCell]; omega)) _))⟩
set_option maxRecDepth 100000 in
set_option maxHeartbeats 2000000 in
theorem index_bk (l : List Bk) (A : Option Addr) (c gc : Nat) (id : Int) (w : World) (hr : Reads w w.heap.size 6 A l.length (l.flatMap Bk.cells)) (hl : l.length ≤ 1000000) (hc : w.cell? ⟨gc, 0, none⟩ = some (.int .i64 id)) :
    Calls Try.prog 104 #[.slice A l.length c, .func (Fn.func 113) #[] #[.pointer (some ⟨gc, 0, none⟩)]] w fun e w' => e = .returned (.int .i64 (idxB l id)) ∧ Below w.heap.size w w' := by
  go_enter Try.func104, Try.ntmps104
  go_wp2_with fail
  go_loopw [8] (fun i wr => ∃ k : Nat, k ≤ l.length ∧ i = .int .i64 (k : Nat) ∧ (∀ j, j < k → ∀ b, l[j]? = some b → b.id ≠ id) ∧ Below w.heap.size w wr) (fun i _ => l.length - (intOf i).toNat)
  case atStart => exact ⟨0, by omega, rfl, fun j hj => absurd hj (by omega), Below.refl _ _⟩
  case round =>
    obtain ⟨k, hk, rfl, hall, hb⟩ := hrel
    replace hall := Lib.hid hall
    by_cases hlt : k < l.length
    · have hlti : (k : Int) < (l.length : Int) := by omega
      obtain ⟨ad, x, rfl, hbl, hx, c0, c1, c2, c3, c4, c5⟩ := bk_at (hr.below hb) hlt
      have W1 := with1_any x id gc wr ((hb.cell (p := ⟨gc, 0, none⟩) (block_lt_of_cell hc)).trans hc)
      have hhit := idxB_hit (l := l) (id := id) (k := k) (x := x) hall.out hx
      obtain ⟨o, ho⟩ : ∃ o, (x.id == id) = o := ⟨_, rfl⟩
      rw [ho] at W1
      obtain ⟨xi, xw, xs, xv, xh, xo⟩ := x
      unfold Bk.val at W1
      dsimp only at *
      replace W1 := Lib.hid W1
      cases o
      · have hne : xi ≠ id := by simpa using ho
        replace ho := Lib.hid ho
        replace hne := Lib.hid hne
        replace hx := Lib.hid hx
        clear hhit hr hc
        go_wp2_with fail
        refine W1.out.mono ?_
        rintro e w1 ⟨rfl, hb1⟩
        go_wp2_with fail
        go_roundw
        case rel => exact ⟨k + 1, by omega, by go_num, fun j hj b hbj => by
          rcases Nat.lt_succ_iff_lt_or_eq.1 hj with h | rfl
          · exact hall.out j h b hbj
          · have := hx.out; rw [hbj] at this; cases this; exact hne.out, below_chain hb1 hb⟩
        case measure => simp [intOf]; omega
      · have he : xi = id := by simpa using ho
        have hfin := Lib.hid (hhit he).1
        replace ho := Lib.hid ho
        replace he := Lib.hid he
        replace hx := Lib.hid hx
        clear hhit hr hc
        go_wp2_with fail
        refine W1.out.mono ?_
        rintro e w1 ⟨rfl, hb1⟩
        go_wp2_with fail
        go_ret
        exact ⟨by rw [hfin.out]; rfl, below_chain hb1 hb⟩
    · obtain rfl : k = l.length := by omega
      have hlti : ¬ (l.length : Int) < (l.length : Int) := by omega
      have hfin := Lib.hid (idxB_miss (l := l) (id := id) fun j b hj => hall.out j (List.getElem?_eq_some_iff.1 hj).1 b hj).1
      clear hr hc
      go_wp2_with fail
      go_ret
      exact ⟨by rw [hfin.out]; rfl, hb⟩
theorem contains_bk (l : List Bk) (A : Option Addr) (c gc : Nat) (id : Int) (w : World) (hr : Reads w w.heap.size 6 A l.length (l.flatMap Bk.cells)) (hl : l.length ≤ 1000000) (hc : w.cell? ⟨gc, 0, none⟩ = some (.int .i64 id)) :
    Calls Try.prog 82 #[.slice A l.length c, .func (Fn.func 113) #[] #[.pointer (some ⟨gc, 0, none⟩)]] w fun e w' => e = .returned (.bool (hasB l id)) ∧ Below w.heap.size w w' := by
  have I := Lib.hid (index_bk l A c gc id w hr hl hc)
  have hf := Lib.hid (idxB_has l id)
  clear hr hc
  go_enter Try.func82, Try.ntmps82
  go_wp2_with fail
  refine I.out.mono ?_
  rintro e w1 ⟨rfl, hb1⟩
  go_wp2_with fail
  go_ret
  exact ⟨by rw [← hf.out]; rfl, hb1⟩
set_option maxHeartbeats 1000000 in
theorem elig_has (ver : Int) (l : List Bk) (A : Option Addr) (c : Nat) (id : Int) (w : World) (hr : Reads w w.heap.size 6 A l.length (l.flatMap Bk.cells)) (hl : l.length ≤ 1000000) :
    Calls Try.prog 33 #[.agg #[.int .i64 ver, .slice A l.length c], .int .i64 id] w fun e w' => e = .returned (.bool (hasB l id)) ∧ Below w.heap.size w w' := by
  have CF := Lib.hid fun gc W hr hc => contains_bk l A c gc id W hr hl hc
  have WI := Lib.hid (with_any id)
  have B0 := Blk.new w 36 #[.int .i64 ver, .slice A l.length c]
  have hb0 : Below w.heap.size w (w.alloc (.cells #[.int .i64 ver, .slice A l.length c] 36)) := (by repeat (first | exact Below.refl _ _ | assumption | refine below_alloc ?_ _ | refine below_chain (by assumption) ?_ | refine below_call2 (by assumption) ?_ (by first | omega | (simp; done) | (simp; omega) | (simp [World.setCell]; omega)) | refine below_drewN ?_ _ | refine Below.drew ?_ | refine Below.alloc ?_ (by first | omega | (simp; done) | (simp; omega) | (simp [World.setCell]; omega)) _ | refine Below.setCell ?_ (by first | omega | (simp; done) | (simp; omega) | (simp [World.setCell]; omega)) _))
  have s1 := B0.cell 1
  simp only [List.getElem?_toArray, List.getElem?_cons_zero, List.getElem?_cons_succ] at s1
  have hR := Lib.hid fun (W : World) (h : Below w.heap.size w W) => (show Reads W W.heap.size 6 A l.length (l.flatMap Bk.cells) from (hr.below h).more h.size)
  clear hr B0
  go_enter Try.func33, Try.ntmps33
  go_wp2_with fail
  generalize w.alloc (.cells #[.int .i64 ver, .slice A l.length c] 36) = w0 at *
  go_region_held3 (fun w' => Below w0.heap.size w0 w' ∧ w'.cell? ⟨w.heap.size, 1, none⟩ = some (.slice A l.length c)) ((first | assumption | ((refine ⟨?_, ?_⟩; (first | assumption | exact (Below.refl _ _).drew | exact Below.refl _ _); go_keep)))) (first
    | (go_at_call 83; (with_reducible refine (WI.out _).mono ?_); rintro e w1 ⟨rfl, rfl⟩; have hS := hold1 (by assumption) (below_alloc (Below.refl _ _) (.cells #[.int .i64 id] 3)))
    | (go_at_call 82; refine (CF.out _ _ (hR.out _ (below_chain (by exact hS.1) hb0)) ((Blk.new _ _ _).cell 0)).mono ?_; rintro e w2 ⟨rfl, hb2⟩; have hS := hold1 (by assumption) hb2))
  all_goals
    go_wp2_with fail
    go_ret
    exact ⟨rfl, below_chain (by exact hS.1) hb0⟩
end Go.Proofs.Ytkpkjpdhlmjchaa
