/- policy: Right, ready, Kind, Set, New. -/
import Derived.Test.YtkpkjpdhlmjchaaMagF
import Derived.Test.YtkpkjpdhlmjchaaSwE
import Derived.Deep.RegionHeld3
namespace Go.Proofs.Ytkpkjpdhlmjchaa
open Go Go.RowKit Go.Deep

def polOk (kind size : Int) : Bool := decide (1 ≤ kind) && decide (kind ≤ 4) && sizedB size
set_option maxHeartbeats 2000000 in
theorem polright_any (kind size : Int) (w : World) : Calls Try.prog 45 #[.agg #[.int .i64 kind, .int .i64 size]] w fun e w' => e = .returned (.bool (polOk kind size)) ∧ Below w.heap.size w w' := by
  unfold polOk
  by_cases h1 : kind < 1
  · have d1 : decide (1 ≤ kind) = false := by simp; omega
    have d2 : decide (kind < 1) = true := by simpa using h1
    rw [d1]
    clear d1 h1
    go_enter Try.func45, Try.ntmps45
    go_wp2_with fail
    go_ret
    exact ⟨rfl, below_alloc (Below.refl _ _) _⟩
  by_cases h2 : 4 < kind
  · have d1 : decide (1 ≤ kind) = true := by simp; omega
    have d3 : decide (kind ≤ 4) = false := by simp; omega
    have d2 : decide (kind < 1) = false := by simpa using h1
    have d4 : decide (4 < kind) = true := by simpa using h2
    rw [d1, d3]
    clear d1 d3 h1 h2
    go_enter Try.func45, Try.ntmps45
    go_wp2_with fail
    go_ret
    exact ⟨rfl, below_alloc (Below.refl _ _) _⟩
  have d1 : decide (1 ≤ kind) = true := by simp; omega
  have d3 : decide (kind ≤ 4) = true := by simp; omega
  have d2 : decide (kind < 1) = false := by simpa using h1
  have d4 : decide (4 < kind) = false := by simpa using h2
  rw [d1, d3]
  have hE : newE size 0 = if sizedB size then 8 else 1 := by unfold newE; rw [if_pos rfl]
  have N := fun W => new_none 0 [] none 0 0 0 size W (by simp) (by rw [show ([] : List Bk).length = 0 from rfl, hE]; split <;> simp)
  rw [show ([] : List Bk).length = 0 from rfl, hE] at N
  obtain ⟨t, ht⟩ : ∃ t, sizedB size = t := ⟨_, rfl⟩
  rw [ht] at N ⊢
  have hb0 := below_alloc (Below.refl w.heap.size w) (.cells #[.int .i64 kind, .int .i64 size] 88)
  replace N := Lib.hid N
  replace ht := Lib.hid ht
  clear d1 d3 h1 h2 hE
  cases t
  all_goals
    go_enter Try.func45, Try.ntmps45
    go_wp2_with fail
    refine (N.out _).mono ?_
    rintro e w1 ⟨rfl, hb1⟩
    have hb2 := below_chain hb1 hb0
    clear hb0 hb1
    go_wp2_with fail
    go_ret
    exact ⟨rfl, hb2⟩
theorem refpolright_any (kind size : Int) (w : World) : Calls Try.prog 38 #[.agg #[.int .i64 kind, .int .i64 size]] w fun e w' => e = .returned (.bool (polOk kind size)) ∧ Below w.heap.size w w' := by
  unfold polOk
  have S := fun W => refsize_any size W
  obtain ⟨a, ha⟩ : ∃ a, decide (1 ≤ kind) = a := ⟨_, rfl⟩
  obtain ⟨b, hb⟩ : ∃ b, decide (kind ≤ 4) = b := ⟨_, rfl⟩
  rw [ha, hb]
  generalize sizedB size = t at *
  replace S := Lib.hid S
  have hb0 := below_alloc (Below.refl w.heap.size w) (.cells #[.int .i64 kind, .int .i64 size] 80)
  cases a
  · go_enter Try.func38, Try.ntmps38
    go_wp2_with fail
    go_ret
    exact ⟨rfl, hb0⟩
  · cases b
    · go_enter Try.func38, Try.ntmps38
      go_wp2_with fail
      go_ret
      exact ⟨rfl, hb0⟩
    · go_enter Try.func38, Try.ntmps38
      go_wp2_with fail
      refine (S.out _).mono ?_
      rintro e w1 ⟨rfl, rfl⟩
      go_wp2_with fail
      go_ret
      exact ⟨by simp, hb0⟩

/-- A chooser's own cells. -/
abbrev chArr (kind size ka kb : Int) (tn tp : Value) (some_ : Bool) (ver : Int) : Array Value := #[.int .i64 kind, .int .i64 size, .int .u64 ka, .int .u64 kb, tn, tp, .bool some_, .int .i64 ver]
abbrev ChBlk (w : World) (g : Nat) (kind size ka kb : Int) (tn tp : Value) (some_ : Bool) (ver : Int) : Prop := Blk w g 149 (chArr kind size ka kb tn tp some_ ver)
theorem polkind_nil (w : World) : Calls Try.prog 50 #[.pointer none] w fun e w' => e = .returned (.int .i64 0) ∧ w = w' := by
  go_enter Try.func50, Try.ntmps50
  go_wp2_with fail
  go_ret
  exact ⟨rfl, rfl⟩
theorem polkind_any {g : Nat} {kind size ka kb : Int} {tn tp : Value} {so : Bool} {ver : Int} {w : World} (h : ChBlk w g kind size ka kb tn tp so ver) : Calls Try.prog 50 #[.pointer (some ⟨g, 0, none⟩)] w fun e w' => e = .returned (.int .i64 kind) ∧ w = w' := by
  have c0 := h.cell 0
  simp only [List.getElem?_toArray, List.getElem?_cons_zero] at c0
  clear h
  go_enter Try.func50, Try.ntmps50
  go_wp2_with fail
  go_ret
  exact ⟨rfl, rfl⟩
/-! ready. -/
theorem ready_nil (v1 v2 : Value) (w : World) : Calls Try.prog 88 #[.pointer none, .agg #[v1, v2]] w fun e w' => e = .returned (.int .i64 1) ∧ Below w.heap.size w w' := by
  have hb0 := below_alloc (Below.refl w.heap.size w) (.cells #[v1, v2] 36)
  go_enter Try.func88, Try.ntmps88
  go_wp2_with fail
  go_ret
  exact ⟨rfl, hb0⟩
theorem ready_plain {g : Nat} {kind size ka kb : Int} {tp : Value} {so : Bool} {ver : Int} {w : World} (v1 v2 : Value) (h : ChBlk w g kind size ka kb (.pointer none) tp so ver) : Calls Try.prog 88 #[.pointer (some ⟨g, 0, none⟩), .agg #[v1, v2]] w fun e w' => e = .returned (.int .i64 1) ∧ Below w.heap.size w w' := by
  have hb0 := below_alloc (Below.refl w.heap.size w) (.cells #[v1, v2] 36)
  have c4 := (h.alloc (.cells #[v1, v2] 36)).cell 4
  simp only [List.getElem?_toArray, List.getElem?_cons_zero, List.getElem?_cons_succ] at c4
  clear h
  go_enter Try.func88, Try.ntmps88
  go_wp2_with fail
  go_ret
  exact ⟨rfl, hb0⟩
theorem ready_any {g gt : Nat} {kind size ka kb : Int} {tp : Value} {so : Bool} {ver : Int} {w : World} (v1 : Int) (A : Option Addr) (n c : Nat) (h : ChBlk w g kind size ka kb (.pointer (some ⟨gt, 0, none⟩)) tp so ver) : Calls Try.prog 88 #[.pointer (some ⟨g, 0, none⟩), .agg #[.int .i64 v1, .slice A n c]] w fun e w' => e = .returned (.int .i64 (if n = 0 then 8 else 0)) ∧ Below w.heap.size w w' := by
  have hb0 := below_alloc (Below.refl w.heap.size w) (.cells #[.int .i64 v1, .slice A n c] 36)
  have B0 := Blk.new w 36 #[.int .i64 v1, .slice A n c]
  have s1 := B0.cell 1
  have c4 := (h.alloc (.cells #[.int .i64 v1, .slice A n c] 36)).cell 4
  simp only [List.getElem?_toArray, List.getElem?_cons_zero, List.getElem?_cons_succ] at c4 s1
  clear h
  by_cases h0 : n = 0
  · rw [if_pos h0]
    have e0 : ((n : Int) == 0) = true := by rw [h0]; rfl
    replace h0 := Lib.hid h0
    go_enter Try.func88, Try.ntmps88
    go_wp2_with fail
    go_ret
    exact ⟨rfl, hb0⟩
  · rw [if_neg h0]
    have e0 : ((n : Int) == 0) = false := by rw [beq_eq_false_iff_ne]; omega
    replace h0 := Lib.hid h0
    go_enter Try.func88, Try.ntmps88
    go_wp2_with fail
    go_ret
    exact ⟨rfl, hb0⟩
end Go.Proofs.Ytkpkjpdhlmjchaa
