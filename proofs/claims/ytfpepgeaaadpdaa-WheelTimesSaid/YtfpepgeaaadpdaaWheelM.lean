/- wheel: the document's wheel: New, Unset, Due, turn. -/
import Derived.Test.YtfpepgeaaadpdaaWheelL
namespace Go.Proofs.Ytfpepgeaaadpdaa
open Go Go.RowKit Go.Deep Go.Maps Go.ChangeMaps

/-- The document's wheel in memory. -/
structure RWhAt (w : World) (g : Nat) (G now : Int) (M : LM) (A : Option Addr) (c : Nat) (B : Option Addr) (d : Nat) : Prop where
  blk : Blk w g 41 #[.int .i64 G, .int .i64 now, .slice A M.length c, .slice B M.length d]
  two : Two w 0 A c (pre2 M) B d (post2 M)
  ga : ¬ InB A g
  gb : ¬ InB B g
def rwF (g : Nat) (A B : Option Addr) (b : Nat) : Prop := b = g ∨ InB A b ∨ InB B b
section
variable {w w' : World} {g : Nat} {G now : Int} {M : LM} {A : Option Addr} {c : Nat} {B : Option Addr} {d : Nat}
theorem Two.chg {base : Nat} {L K : List Int} {F : Nat → Prop} (h : Two w base A c L B d K) (k : Chg F w w') (hF : ∀ b, InB A b ∨ InB B b → ¬ F b) : Two w' base A c L B d K :=
  ⟨h.fst.chg k (fun b hb => hF b (.inl hb)), h.snd.chg k (fun b hb => hF b (.inr hb)), h.apart⟩
theorem Two.base {base base' : Nat} {L K : List Int} (h : Two w base A c L B d K) (hb : base' ≤ base) : Two w base' A c L B d K := by
  have f : ∀ {A : Option Addr} {c : Nat} {L : List Int}, OwnI w base A c L → OwnI w base' A c L := fun h => by
    unfold OwnI OwnA at h ⊢
    refine ⟨h.1, ?_⟩
    rcases h.2 with h0 | ⟨g, cap, cur, h1, hg, r⟩
    · exact .inl h0
    · exact .inr ⟨g, cap, cur, h1, by omega, r⟩
  exact ⟨f h.fst, f h.snd, h.apart⟩
theorem RWhAt.chg {F : Nat → Prop} (h : RWhAt w g G now M A c B d) (k : Chg F w w') (hF : ∀ b, rwF g A B b → ¬ F b) : RWhAt w' g G now M A c B d :=
  ⟨h.blk.chg k (hF _ (.inl rfl)), h.two.chg k (fun b hb => hF b (.inr hb)), h.ga, h.gb⟩
theorem RWhAt.call (h : RWhAt w g G now M A c B d) (hb : Below w.heap.size w w') : RWhAt w' g G now M A c B d :=
  h.chg (F := fun _ => False) (Chg.of_below hb) (fun _ _ h => h)
theorem RWhAt.lt (h : RWhAt w g G now M A c B d) {b : Nat} (hb : rwF g A B b) : b < w.heap.size := by
  rcases hb with rfl | hb | hb
  · exact h.blk.lt
  · exact (h.two.fst.block hb).2
  · exact (h.two.snd.block hb).2
theorem RWhAt.cells (h : RWhAt w g G now M A c B d) : w.cell? ⟨g, 0, none⟩ = some (.int .i64 G) ∧ w.cell? ⟨g, 1, none⟩ = some (.int .i64 now) ∧ w.cell? ⟨g, 2, none⟩ = some (.slice A M.length c) ∧ w.cell? ⟨g, 3, none⟩ = some (.slice B M.length d) :=
  ⟨h.blk.cell 0, h.blk.cell 1, h.blk.cell 2, h.blk.cell 3⟩
theorem inB_none {b : Nat} : ¬ InB none b := fun hb => by
  obtain ⟨a, ha, _⟩ := hb
  cases ha
theorem refwheel_new_bad (G : Int) (w : World) (h : G < 1 ∨ 1024 < G) : Calls Try.prog 7 #[.int .i64 G] w fun e w' => e = .returned (.pointer none) ∧ w = w' := by
  by_cases h1 : G < 1
  · have d1 : decide (G < 1) = true := by simpa using h1
    clear h
    go_enter Try.func7, Try.ntmps7
    go_wp2_with fail
    go_ret
    exact ⟨rfl, rfl⟩
  · have d1 : decide (G < 1) = false := by simpa using h1
    have d2 : decide (1024 < G) = true := by simp; omega
    clear h
    go_enter Try.func7, Try.ntmps7
    go_wp2_with fail
    go_ret
    exact ⟨rfl, rfl⟩
theorem refwheel_new (G : Int) (w : World) (h : 1 ≤ G ∧ G ≤ 1024) : Calls Try.prog 7 #[.int .i64 G] w fun e w' => e = .returned (.pointer (some ⟨w.heap.size, 0, none⟩)) ∧ RWhAt w' w.heap.size G 0 [] none 0 none 0 ∧ Below w.heap.size w w' := by
  have d1 : decide (G < 1) = false := by simp; omega
  have d2 : decide (1024 < G) = false := by simp; omega
  clear h
  go_enter Try.func7, Try.ntmps7
  go_wp2_with fail
  go_ret
  exact ⟨rfl, ⟨Blk.new _ _ _, ⟨OwnA.nil _ _, OwnA.nil _ _, fun b hb => absurd hb inB_none⟩, inB_none, inB_none⟩, below_alloc (Below.refl _ _) _⟩
theorem refwheel_turn (h : RWhAt w g G now M A c B d) (hG : 1 ≤ G ∧ G ≤ 1024) (due : Int) (hd : 0 ≤ due ∧ due ≤ 2199023255552) : Calls Try.prog 29 #[.pointer (some ⟨g, 0, none⟩), .int .i64 due] w fun e w' => e = .returned (.int .i64 (turnI G due)) ∧ ∃ n, w' = w.drewN n := by
  have c0 := h.cells.1
  have hq : (due + G - 1) / G = turnI G due := rfl
  have hz : (G == 0) = false := by rw [beq_eq_false_iff_ne]; omega
  generalize turnI G due = r at *
  replace hq := Lib.hid hq
  clear h
  go_enter Try.func29, Try.ntmps29
  go_wp2_with fail
  go_quiet (fail)
  go_wp2_with fail
  go_ret
  exact ⟨by rw [← hq.out]; rfl, _, rfl⟩
theorem rw_facts {X Y : Addr} {u v : Value} (h1 : RWhAt w g G now M A c B d) (hb : Below w.heap.size w w') (hc : w.cell? X = some u) (hd : w.cell? Y = some v) :
    w'.cell? ⟨g, 2, none⟩ = some (.slice A M.length c) ∧ w'.cell? ⟨g, 3, none⟩ = some (.slice B M.length d) ∧ w'.cell? X = some u ∧ w'.cell? Y = some v :=
  ⟨(h1.call hb).cells.2.2.1, (h1.call hb).cells.2.2.2, (hb.cell (block_lt_of_cell hc)).trans hc, (hb.cell (block_lt_of_cell hd)).trans hd⟩
theorem lmDel_take {id : Int} {k : Nat} (hk : k < M.length) : lmDel (M.take (k + 1)) id = if M[k].1 = id then lmDel (M.take k) id else lmDel (M.take k) id ++ [M[k]] := by
  unfold lmDel
  rw [List.take_succ_eq_append_getElem hk, List.filter_append]
  by_cases e : M[k].1 = id
  · rw [if_pos e, List.filter_cons_of_neg (by simpa using e)]
    simp
  · rw [if_neg e, List.filter_cons_of_pos (by simpa using e)]
    simp
theorem lmHas_take {id : Int} {k : Nat} (hk : k < M.length) : lmHas (M.take (k + 1)) id = (lmHas (M.take k) id || (M[k].1 == id)) := by
  unfold lmHas
  rw [List.take_succ_eq_append_getElem hk, List.any_append]
  simp
theorem rw_at (h : RWhAt w g G now M A c B d) {k : Nat} (hk : k < M.length) : ∃ a1 a2, A = some a1 ∧ B = some a2 ∧ w.cell? (a1.add k) = some (.int .i64 M[k].1) ∧ w.cell? (a2.add k) = some (.int .i64 M[k].2) := by
  obtain ⟨a1, h1, -, h2⟩ := (h.two.fst.ints).int_at (i := k) (by rw [pre2_len]; exact hk)
  obtain ⟨a2, h3, -, h4⟩ := (h.two.snd.ints).int_at (i := k) (by rw [post2_len]; exact hk)
  refine ⟨a1, a2, h1, h3, ?_, ?_⟩
  · rw [h2]
    simp [pre2, hk]
  · rw [h4]
    simp [post2, hk]
end
end Go.Proofs.Ytfpepgeaaadpdaa
