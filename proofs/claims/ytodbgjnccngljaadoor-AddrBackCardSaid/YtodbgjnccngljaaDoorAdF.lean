/- addr: Get, Less. -/
import Derived.Test.YtodbgjnccngljaaDoorAdE
import Derived.Deep.Cut
namespace Go.Proofs.YtodbgjnccngljaaDoor
open Go Go.RowKit Go.Deep

def adrV (a : Option (Bool × Nat × Nat)) : Value := match a with
  | some (v, hi, lo) => .agg #[.bool v, .int .u64 (hi : Nat), .int .u64 (lo : Nat)]
  | none => .agg #[.bool false, .int .u64 0, .int .u64 0]
abbrev adrT (a : Option (Bool × Nat × Nat)) : Value := .tuple #[adrV a, .bool a.isSome]

theorem blk3 {w : World} {g : Nat} {t : TypeId} {a b c : Value} (h : Blk w g t #[a, b, c]) :
    (w.cell? ⟨g, 0, none⟩ = some a ∧ w.cell? ⟨g, 1, none⟩ = some b ∧ w.cell? ⟨g, 2, none⟩ = some c) ∧ w.frozen? ⟨g, 0, none⟩ = false ∧ w.frozen? ⟨g, 1, none⟩ = false ∧ w.frozen? ⟨g, 2, none⟩ = false := by
  unfold Blk at h
  refine ⟨⟨?_, ?_, ?_⟩, ?_, ?_, ?_⟩ <;> simp [World.cell?, World.frozen?, h]
theorem blk3_set {w : World} {g : Nat} {t : TypeId} {a b c : Value} (h : Blk w g t #[a, b, c]) (a' b' c' : Value) :
    Blk (((w.setCell ⟨g, 0, none⟩ a').setCell ⟨g, 1, none⟩ b').setCell ⟨g, 2, none⟩ c') g t #[a', b', c'] := by
  unfold Blk at h ⊢
  simp [World.setCell, Array.getElem?_modify, h]

theorem below_set3 {w0 w : World} {g : Nat} (hb : Below w0.heap.size w0 w) (hg : w0.heap.size ≤ g) (a b c : Value) : Below w0.heap.size w0 (((w.setCell ⟨g, 0, none⟩ a).setCell ⟨g, 1, none⟩ b).setCell ⟨g, 2, none⟩ c) :=
  ((hb.setCell hg _).setCell hg _).setCell hg _

set_option maxRecDepth 100000 in
set_option maxHeartbeats 4000000 in
theorem addr_get (b : List UInt8) (w : World) :
    Calls Tryd.prog 7 #[.string ⟨b.toArray⟩] w fun e w' => e = .returned (adrT (getA b)) ∧ Below w.heap.size w w' := by
  have K := Blk.new w 24 #[.bool false, .int .u64 0, .int .u64 0]
  have hb0 : Below w.heap.size w (w.alloc (.cells #[.bool false, .int .u64 0, .int .u64 0] 24)) := (Below.refl _ _).alloc (Nat.le_refl _) _
  have hs0 : (w.alloc (.cells #[.bool false, .int .u64 0, .int .u64 0] 24)).heap.size = w.heap.size + 1 := by simp
  by_cases h4 : b.length = 4
  · have e4 : ((b.length : Int) == 4) = true := by rw [h4]; rfl
    have G := oct_get b 0 4
    rw [List.drop_zero, List.take_of_length_le (by omega)] at G
    have hg : getA b = some (false, 0, numB b) := by unfold getA; rw [if_pos h4]
    rw [hg]
    replace hg := Lib.hid hg
    have G2 := Lib.hid (fun W => G W (by omega) (by omega) (by omega) (by omega))
    clear G
    generalize numB b = nb at *
    go_enter Tryd.func7, Tryd.ntmps7
    go_wp2_with (go_at_call 26; refine (G2.out _).mono ?_; rintro e w2 ⟨rfl, hb2⟩; have K2 := K.call hb2; have hbA := below_chain hb2 hb0; obtain ⟨⟨c0, c1, c2⟩, f0, f1, f2⟩ := blk3 K2; clear hb2 K; replace K2 := Lib.hid K2)
    have K3 := blk3_set K2.out (.bool false) (.int .u64 0) (.int .u64 (nb : Nat)); have hb3 := below_set3 hbA (Nat.le_refl _) (.bool false) (.int .u64 0) (.int .u64 (nb : Nat)); generalize (((w2.setCell ⟨w.heap.size, 0, none⟩ (.bool false)).setCell ⟨w.heap.size, 1, none⟩ (.int .u64 0)).setCell ⟨w.heap.size, 2, none⟩ (.int .u64 (nb : Nat))) = w3 at *; clear c0 c1 c2 f0 f1 f2; obtain ⟨⟨c0, c1, c2⟩, f0, f1, f2⟩ := blk3 K3; replace K3 := Lib.hid K3; refine bodyPost_ret (v := .tuple #[.agg #[.bool false, .int .u64 0, .int .u64 (nb : Nat)], .bool true]) (by simp [results, Tryd.results7, go_sem, *]) rfl ?_; exact ⟨rfl, hb3⟩
  · have e4 : ((b.length : Int) == 4) = false := by rw [beq_eq_false_iff_ne]; omega
    by_cases h16 : b.length = 16
    · have e16 : ((b.length : Int) == 16) = true := by rw [h16]; rfl
      have G := fun W => oct_get b 0 8 W (by omega) (by omega) (by omega) (by omega)
      have H := fun W => oct_get b 8 8 W (by omega) (by omega) (by omega) (by omega)
      rw [show ((8 : Nat) : Int) = 8 from rfl] at G H
      rw [show ((0 : Nat) : Int) = 0 from rfl] at G
      rw [List.drop_zero] at G
      rw [List.take_of_length_le (by simp; omega)] at H
      have hg : getA b = some (true, numB (b.take 8), numB (b.drop 8)) := by unfold getA; rw [if_neg h4, if_pos h16]
      rw [hg]
      replace hg := Lib.hid hg
      have G2 := Lib.hid G
      have H2 := Lib.hid H
      clear G H
      generalize numB (b.take 8) = n1 at *
      generalize numB (b.drop 8) = n2 at *
      have K6 := Blk.new (w.alloc (.cells #[.bool false, .int .u64 0, .int .u64 0] 24)) 24 #[.bool true, .int .u64 0, .int .u64 0]
      have K0 := K.alloc (.cells #[.bool true, .int .u64 0, .int .u64 0] 24)
      have hb1 := below_alloc hb0 (.cells #[.bool true, .int .u64 0, .int .u64 0] 24)
      rw [hs0] at K6
      clear K
      go_enter Tryd.func7, Tryd.ntmps7
      go_upto_region 8 with (go_at_call 26; (with_reducible refine (G2.out _).mono ?_); rintro e w2 ⟨rfl, hb2⟩; have K2 := K0.call hb2; have L2 := K6.call hb2; have hbA := below_chain hb2 hb1; obtain ⟨⟨c0, c1, c2⟩, f0, f1, f2⟩ := blk3 L2; clear hb2 K0 K6 hb1)
      have L3 := L2.set_ 1 (.int .u64 (n1 : Nat))
      have K3 := K2.far (p := ⟨w.heap.size + 1, 1, none⟩) (by simp) (.int .u64 (n1 : Nat))
      have hbB : Below w.heap.size w (w2.setCell ⟨w.heap.size + 1, 1, none⟩ (.int .u64 (n1 : Nat))) := hbA.setCell (by simp) _
      simp only [List.setIfInBounds_toArray, List.set_cons_succ, List.set_cons_zero] at L3
      generalize w2.setCell ⟨w.heap.size + 1, 1, none⟩ (.int .u64 (n1 : Nat)) = w3 at *
      clear K2 L2 hbA c0 c1 c2 f0 f1 f2
      go_wp2_with (go_at_call 26; (with_reducible refine (H2.out _).mono ?_); rintro e w4 ⟨rfl, hb4⟩; have K2 := K3.call hb4; have L2 := L3.call hb4; have hbA := below_chain hb4 hbB; obtain ⟨⟨c0, c1, c2⟩, f0, f1, f2⟩ := blk3 L2; obtain ⟨⟨d0, d1, d2⟩, g0, g1, g2⟩ := blk3 K2)
      have K5 := blk3_set (K2.far (p := ⟨w.heap.size + 1, 2, none⟩) (by simp) (.int .u64 (n2 : Nat))) (.bool true) (.int .u64 (n1 : Nat)) (.int .u64 (n2 : Nat))
      have hb3 := below_set3 (hbA.setCell (p := ⟨w.heap.size + 1, 2, none⟩) (by simp) (.int .u64 (n2 : Nat))) (Nat.le_refl _) (.bool true) (.int .u64 (n1 : Nat)) (.int .u64 (n2 : Nat))
      generalize ((((w4.setCell ⟨w.heap.size + 1, 2, none⟩ (.int .u64 (n2 : Nat))).setCell ⟨w.heap.size, 0, none⟩ (.bool true)).setCell ⟨w.heap.size, 1, none⟩ (.int .u64 (n1 : Nat))).setCell ⟨w.heap.size, 2, none⟩ (.int .u64 (n2 : Nat))) = w5 at *
      clear c0 c1 c2 f0 f1 f2 d0 d1 d2 g0 g1 g2
      obtain ⟨⟨c0, c1, c2⟩, f0, f1, f2⟩ := blk3 K5
      replace K5 := Lib.hid K5
      refine bodyPost_ret (v := .tuple #[.agg #[.bool true, .int .u64 (n1 : Nat), .int .u64 (n2 : Nat)], .bool true]) (by simp [results, Tryd.results7, go_sem, *]) rfl ?_
      exact ⟨rfl, hb3⟩
    · have e16 : ((b.length : Int) == 16) = false := by rw [beq_eq_false_iff_ne]; omega
      have hg : getA b = none := by unfold getA; rw [if_neg h4, if_neg h16]
      rw [hg]
      replace hg := Lib.hid hg
      obtain ⟨w2, hw2⟩ : ∃ w2, w.alloc (.cells #[.bool false, .int .u64 0, .int .u64 0] 24) = w2 := ⟨_, rfl⟩
      have K2 := Lib.hid K
      have hbA := hb0
      obtain ⟨⟨c0, c1, c2⟩, f0, f1, f2⟩ := blk3 K
      clear hs0 hb0 K
      rw [hw2] at K2 hbA c0 c1 c2 f0 f1 f2
      go_enter Tryd.func7, Tryd.ntmps7
      go_wp2_with fail
      have K3 := blk3_set K2.out (.bool false) (.int .u64 0) (.int .u64 0); have hb3 := below_set3 hbA (Nat.le_refl _) (.bool false) (.int .u64 0) (.int .u64 0); generalize (((w2.setCell ⟨w.heap.size, 0, none⟩ (.bool false)).setCell ⟨w.heap.size, 1, none⟩ (.int .u64 0)).setCell ⟨w.heap.size, 2, none⟩ (.int .u64 0)) = w3 at *; clear c0 c1 c2 f0 f1 f2; obtain ⟨⟨c0, c1, c2⟩, f0, f1, f2⟩ := blk3 K3; replace K3 := Lib.hid K3; refine bodyPost_ret (v := .tuple #[.agg #[.bool false, .int .u64 0, .int .u64 0], .bool false]) (by simp [results, Tryd.results7, go_sem, *]) rfl ?_; exact ⟨rfl, hb3⟩

set_option maxRecDepth 100000 in
set_option maxHeartbeats 4000000 in
theorem addr_less (v v' : Bool) (hi lo hi' lo' : Nat) (w : World) :
    Calls Tryd.prog 17 #[.agg #[.bool v, .int .u64 (hi : Nat), .int .u64 (lo : Nat)], .agg #[.bool v', .int .u64 (hi' : Nat), .int .u64 (lo' : Nat)]] w fun e w' => e = .returned (.bool (if v = v' then decide (hi < hi') || (decide (hi = hi') && decide (lo < lo')) else v')) ∧ Below w.heap.size w w' := by
  have e1 : (v == v') = decide (v = v') := by cases v <;> cases v' <;> rfl
  by_cases h1 : v = v'
  · subst h1
    rw [if_pos rfl]
    clear e1
    by_cases h2 : hi = hi'
    · subst h2
      rw [show (decide (hi < hi) || (decide (hi = hi) && decide (lo < lo'))) = decide (lo < lo') by simp]
      go_enter Tryd.func17, Tryd.ntmps17
      go_wp2_with fail
      go_ret
      exact ⟨rfl, (by repeat (first | exact Below.refl _ _ | assumption | refine below_alloc ?_ _ | refine below_chain (by assumption) ?_ | refine below_call2 (by assumption) ?_ (by first | omega | (simp; done) | (simp; omega) | (simp [World.setCell]; omega)) | refine below_drewN ?_ _ | refine Below.drew ?_ | refine Below.alloc ?_ (by first | omega | (simp; done) | (simp; omega) | (simp [World.setCell]; omega)) _ | refine Below.setCell ?_ (by first | omega | (simp; done) | (simp; omega) | (simp [World.setCell]; omega)) _))⟩
    · have h3 : ((hi : Int) == (hi' : Int)) = false := by rw [beq_eq_false_iff_ne]; omega
      rw [show (decide (hi < hi') || (decide (hi = hi') && decide (lo < lo'))) = decide (hi < hi') by simp [h2]]
      replace h2 := Lib.hid h2
      go_enter Tryd.func17, Tryd.ntmps17
      go_wp2_with fail
      go_ret
      exact ⟨rfl, (by repeat (first | exact Below.refl _ _ | assumption | refine below_alloc ?_ _ | refine below_chain (by assumption) ?_ | refine below_call2 (by assumption) ?_ (by first | omega | (simp; done) | (simp; omega) | (simp [World.setCell]; omega)) | refine below_drewN ?_ _ | refine Below.drew ?_ | refine Below.alloc ?_ (by first | omega | (simp; done) | (simp; omega) | (simp [World.setCell]; omega)) _ | refine Below.setCell ?_ (by first | omega | (simp; done) | (simp; omega) | (simp [World.setCell]; omega)) _))⟩
  · rw [if_neg h1]
    have h3 : (v == v') = false := by rw [e1]; simpa using h1
    clear e1
    replace h1 := Lib.hid h1
    go_enter Tryd.func17, Tryd.ntmps17
    go_wp2_with fail
    go_ret
    exact ⟨rfl, (by repeat (first | exact Below.refl _ _ | assumption | refine below_alloc ?_ _ | refine below_chain (by assumption) ?_ | refine below_call2 (by assumption) ?_ (by first | omega | (simp; done) | (simp; omega) | (simp [World.setCell]; omega)) | refine below_drewN ?_ _ | refine Below.drew ?_ | refine Below.alloc ?_ (by first | omega | (simp; done) | (simp; omega) | (simp [World.setCell]; omega)) _ | refine Below.setCell ?_ (by first | omega | (simp; done) | (simp; omega) | (simp [World.setCell]; omega)) _))⟩
end Go.Proofs.YtodbgjnccngljaaDoor
