/- least: Pick of a set. -/
import Derived.Test.YtnmmjchhinfbpaaLeastA
namespace Go.Proofs.Ytnmmjchhinfbpaa
open Go Go.RowKit Go.Deep

def leastId (M : LM) (l : List Bk) : Int := if 0 < l.length then (foldB M l).id else 0
set_option maxRecDepth 100000 in
set_option maxHeartbeats 2000000 in
theorem least_any (ver : Int) (l : List Bk) (A : Option Addr) (c gc g b : Nat) (M : LM) (w : World) (hr : Reads w w.heap.size 6 A l.length (l.flatMap Bk.cells)) (hl : l.length ≤ 1000000) (hc : w.cell? ⟨gc, 0, none⟩ = some (.pointer (some ⟨g, 0, none⟩))) (h : LoadAt w g b M) (hwf : ∀ x ∈ l, bkWf x) :
    Calls Try.prog 47 #[.agg #[.int .i64 ver, .slice A l.length c], .func (Fn.func 82) #[] #[.pointer (some ⟨gc, 0, none⟩)]] w fun e w' => e = .returned (.tuple #[.int .i64 (leastId M l), .bool (decide (0 < l.length))]) ∧ Below w.heap.size w w' := by
  have B0 := Blk.new w 37 #[.int .i64 ver, .slice A l.length c]
  have hb0 : Below w.heap.size w (w.alloc (.cells #[.int .i64 ver, .slice A l.length c] 37)) := below_alloc (Below.refl _ _) _
  have s1 := B0.cell 1
  simp only [List.getElem?_toArray, List.getElem?_cons_zero, List.getElem?_cons_succ] at s1
  by_cases h0 : 0 < l.length
  · have e1 : leastId M l = (foldB M l).id := by unfold leastId; rw [if_pos h0]
    have e2 : decide (0 < l.length) = true := by simpa using h0
    rw [e1, e2]
    have e0 : ((l.length : Int) == 0) = false := by rw [beq_eq_false_iff_ne]; omega
    have K := fun W (hb : Below w.heap.size w W) => minfunc_any l A c gc g b M W ((hr.below hb).more hb.size) hl h0 ((hb.cell (p := ⟨gc, 0, none⟩) (block_lt_of_cell hc)).trans hc) (h.call hb) hwf
    generalize foldB M l = y at *
    obtain ⟨yi, yw, ys, yv, yh, yo⟩ := y
    unfold Bk.val at K
    dsimp only at *
    replace K := Lib.hid K
    clear e1 e2 h hc hwf hr h0
    go_enter Try.func47, Try.ntmps47
    go_wp2_with fail
    generalize w.alloc (.cells #[.int .i64 ver, .slice A l.length c] 37) = w0 at *
    refine (K.out _ hb0).mono ?_
    rintro e w1 ⟨rfl, hb1⟩
    have hb2 := below_chain hb1 hb0
    clear hb1 hb0 B0 s1
    have hfd : (Instr.field 46 (.agg #[.int .i64 yi, .int .i64 yw, .int .i64 ys, .bool yv, .int .u64 yh, .int .u64 yo]) 0).run Try.prog w1 = .ok (.int .i64 yi) w1 := by kernel_rfl
    go_wp2_with fail
    go_ret2
    exact ⟨rfl, hb2⟩
  · have e1 : leastId M l = 0 := by unfold leastId; rw [if_neg h0]
    have e2 : decide (0 < l.length) = false := by simpa using h0
    rw [e1, e2]
    have e0 : ((l.length : Int) == 0) = true := by rw [beq_iff_eq]; omega
    clear e1 e2 h hc hwf hr h0
    go_enter Try.func47, Try.ntmps47
    go_wp2_with fail
    go_ret2
    exact ⟨rfl, hb0⟩
set_option maxRecDepth 100000 in
set_option maxHeartbeats 2000000 in
theorem least_pick (ver : Int) (l : List Bk) (A : Option Addr) (c g b : Nat) (M : LM) (w : World) (hr : Reads w w.heap.size 6 A l.length (l.flatMap Bk.cells)) (hl : l.length ≤ 1000000) (h : LoadAt w g b M) (hwf : ∀ x ∈ l, bkWf x) :
    Calls Try.prog 20 #[.agg #[.int .i64 ver, .slice A l.length c], .pointer (some ⟨g, 0, none⟩)] w fun e w' => e = .returned (.tuple #[.int .i64 (leastId M l), .bool (decide (0 < l.length))]) ∧ Below w.heap.size w w' := by
  have K := fun gc W (hb : Below w.heap.size w W) hc => least_any ver l A c gc g b M W ((hr.below hb).more hb.size) hl hc (h.call hb) hwf
  have B0 := Blk.new w 37 #[.int .i64 ver, .slice A l.length c]
  have hb0 : Below w.heap.size w (w.alloc (.cells #[.int .i64 ver, .slice A l.length c] 37)) := below_alloc (Below.refl _ _) _
  have s0 := B0.cell 0
  have s1 := B0.cell 1
  simp only [List.getElem?_toArray, List.getElem?_cons_zero, List.getElem?_cons_succ] at s0 s1
  generalize leastId M l = yi at *
  generalize decide (0 < l.length) = yo at *
  have O := order_any (some ⟨g, 0, none⟩)
  replace K := Lib.hid K
  replace O := Lib.hid O
  clear h hwf hr
  go_enter Try.func20, Try.ntmps20
  go_wp2_with fail
  generalize w.alloc (.cells #[.int .i64 ver, .slice A l.length c] 37) = w0 at *
  go_region_held3 (fun w' => Below w0.heap.size w0 w' ∧ w'.cell? ⟨w.heap.size, 0, none⟩ = some (.int .i64 ver) ∧ w'.cell? ⟨w.heap.size, 1, none⟩ = some (.slice A l.length c)) ((first | assumption | ((refine ⟨?_, ?_⟩; (first | assumption | exact (Below.refl _ _).drew | exact Below.refl _ _); go_keep)))) (first
    | (go_at_call 48; (with_reducible refine (O.out _).mono ?_); rintro e w1 ⟨rfl, rfl⟩; have hS := hold2 (by assumption) (below_alloc (Below.refl _ _) (.cells #[.pointer (some ⟨g, 0, none⟩)] 57)))
    | (go_at_call 47; refine (K.out _ _ (below_chain (by exact hS.1) hb0) ((Blk.new _ _ _).cell 0)).mono ?_; rintro e w2 ⟨rfl, hb2⟩; have hS := hold2 (by assumption) hb2))
  all_goals
    go_wp2_with fail
    go_ret2
    exact ⟨rfl, below_chain (by exact hS.1) hb0⟩
end Go.Proofs.Ytnmmjchhinfbpaa
