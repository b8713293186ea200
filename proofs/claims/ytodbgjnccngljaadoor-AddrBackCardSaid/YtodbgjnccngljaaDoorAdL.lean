/- The reference's addresses: Get, Less, Digits. -/
import Derived.Test.YtodbgjnccngljaaDoorAdF
import Derived.Deep.Cut
namespace Go.Proofs.YtodbgjnccngljaaDoor
open Go Go.RowKit Go.Deep

set_option maxRecDepth 100000 in
set_option maxHeartbeats 4000000 in
theorem refaddr_get (b : List UInt8) (w : World) :
    Calls Tryd.prog 8 #[.string ⟨b.toArray⟩] w fun e w' => e = .returned (adrT (getA b)) ∧ Below w.heap.size w w' := by
  have K := Blk.new w 24 #[.bool false, .int .u64 0, .int .u64 0]
  have hb0 : Below w.heap.size w (w.alloc (.cells #[.bool false, .int .u64 0, .int .u64 0] 24)) := (Below.refl _ _).alloc (Nat.le_refl _) _
  have hs0 : (w.alloc (.cells #[.bool false, .int .u64 0, .int .u64 0] 24)).heap.size = w.heap.size + 1 := by simp
  by_cases h4 : b.length = 4
  · have e4 : ((b.length : Int) == 4) = true := by rw [h4]; rfl
    have G := refoct_get b 0 4
    rw [List.drop_zero, List.take_of_length_le (by omega)] at G
    have hg : getA b = some (false, 0, numB b) := by unfold getA; rw [if_pos h4]
    rw [hg]
    replace hg := Lib.hid hg
    have G2 := Lib.hid (fun W => G W (by omega) (by omega) (by omega) (by omega))
    clear G
    generalize numB b = nb at *
    go_enter Tryd.func8, Tryd.ntmps8
    go_wp2_with (go_at_call 27; refine (G2.out _).mono ?_; rintro e w2 ⟨rfl, hb2⟩; have K2 := K.call hb2; have hbA := below_chain hb2 hb0; obtain ⟨⟨c0, c1, c2⟩, f0, f1, f2⟩ := blk3 K2; clear hb2 K; replace K2 := Lib.hid K2)
    have K3 := blk3_set K2.out (.bool false) (.int .u64 0) (.int .u64 (nb : Nat)); have hb3 := below_set3 hbA (Nat.le_refl _) (.bool false) (.int .u64 0) (.int .u64 (nb : Nat)); generalize (((w2.setCell ⟨w.heap.size, 0, none⟩ (.bool false)).setCell ⟨w.heap.size, 1, none⟩ (.int .u64 0)).setCell ⟨w.heap.size, 2, none⟩ (.int .u64 (nb : Nat))) = w3 at *; clear c0 c1 c2 f0 f1 f2; obtain ⟨⟨c0, c1, c2⟩, f0, f1, f2⟩ := blk3 K3; replace K3 := Lib.hid K3; refine bodyPost_ret (v := .tuple #[.agg #[.bool false, .int .u64 0, .int .u64 (nb : Nat)], .bool true]) (by simp [results, Tryd.results8, go_sem, *]) rfl ?_; exact ⟨rfl, hb3⟩
  · have e4 : ((b.length : Int) == 4) = false := by rw [beq_eq_false_iff_ne]; omega
    by_cases h16 : b.length = 16
    · have e16 : ((b.length : Int) == 16) = true := by rw [h16]; rfl
      have G := fun W => refoct_get b 0 8 W (by omega) (by omega) (by omega) (by omega)
      have H := fun W => refoct_get b 8 8 W (by omega) (by omega) (by omega) (by omega)
      rw [show ((8 : Nat) : Int) = 8 from rfl] at G H
      rw [show ((0 : Nat) : Int) = 0 from rfl] at G
      rw [List.drop_zero] at G
      rw [List.take_of_length_le (by simp; omega)] at H
      have hg : getA b = some (true, numB (b.take 8), numB (b.drop 8)) := by unfold getA; rw [if_neg h4, if_pos h16]
      rw [hg]
      replace hg := Lib.hid hg
      have G2 := Lib.hid G
      have H2 := Lib.hid H
      clear G H
      generalize numB (b.take 8) = n1 at *
      generalize numB (b.drop 8) = n2 at *
      go_enter Tryd.func8, Tryd.ntmps8
      go_upto_region 6 with (go_at_call 27; (with_reducible refine (G2.out _).mono ?_); rintro e w1 ⟨rfl, hb1⟩)
      have K1 := K.call hb1
      have hbB := below_chain hb1 hb0
      go_wp2_with (go_at_call 27; (with_reducible refine (H2.out _).mono ?_); rintro e w2 ⟨rfl, hb2⟩; have K2 := K1.call hb2; have hbA := below_chain hb2 hbB; obtain ⟨⟨c0, c1, c2⟩, f0, f1, f2⟩ := blk3 K2; replace K2 := Lib.hid K2)
      have K3 := blk3_set K2.out (.bool true) (.int .u64 (n1 : Nat)) (.int .u64 (n2 : Nat)); have hb3 := below_set3 hbA (Nat.le_refl _) (.bool true) (.int .u64 (n1 : Nat)) (.int .u64 (n2 : Nat)); generalize (((w2.setCell ⟨w.heap.size, 0, none⟩ (.bool true)).setCell ⟨w.heap.size, 1, none⟩ (.int .u64 (n1 : Nat))).setCell ⟨w.heap.size, 2, none⟩ (.int .u64 (n2 : Nat))) = w3 at *; clear c0 c1 c2 f0 f1 f2; obtain ⟨⟨c0, c1, c2⟩, f0, f1, f2⟩ := blk3 K3; replace K3 := Lib.hid K3; refine bodyPost_ret (v := .tuple #[.agg #[.bool true, .int .u64 (n1 : Nat), .int .u64 (n2 : Nat)], .bool true]) (by simp [results, Tryd.results8, go_sem, *]) rfl ?_; exact ⟨rfl, hb3⟩
    · have e16 : ((b.length : Int) == 16) = false := by rw [beq_eq_false_iff_ne]; omega
      have hg : getA b = none := by unfold getA; rw [if_neg h4, if_neg h16]
      rw [hg]
      replace hg := Lib.hid hg
      obtain ⟨w2, hw2⟩ : ∃ w2, w.alloc (.cells #[.bool false, .int .u64 0, .int .u64 0] 24) = w2 := ⟨_, rfl⟩
      have K2 := Lib.hid K
      have hbA := hb0
      obtain ⟨⟨c0, c1, c2⟩, f0, f1, f2⟩ := blk3 K
      clear hs0 hb0 K
      rw [hw2] at K2 hbA c0 c1 c2 f0 f1 f2
      go_enter Tryd.func8, Tryd.ntmps8
      go_wp2_with fail
      have K3 := blk3_set K2.out (.bool false) (.int .u64 0) (.int .u64 0); have hb3 := below_set3 hbA (Nat.le_refl _) (.bool false) (.int .u64 0) (.int .u64 0); generalize (((w2.setCell ⟨w.heap.size, 0, none⟩ (.bool false)).setCell ⟨w.heap.size, 1, none⟩ (.int .u64 0)).setCell ⟨w.heap.size, 2, none⟩ (.int .u64 0)) = w3 at *; clear c0 c1 c2 f0 f1 f2; obtain ⟨⟨c0, c1, c2⟩, f0, f1, f2⟩ := blk3 K3; replace K3 := Lib.hid K3; refine bodyPost_ret (v := .tuple #[.agg #[.bool false, .int .u64 0, .int .u64 0], .bool false]) (by simp [results, Tryd.results8, go_sem, *]) rfl ?_; exact ⟨rfl, hb3⟩

set_option maxRecDepth 100000 in
set_option maxHeartbeats 4000000 in
theorem refaddr_less (v v' : Bool) (hi lo hi' lo' : Nat) (w : World) :
    Calls Tryd.prog 18 #[.agg #[.bool v, .int .u64 (hi : Nat), .int .u64 (lo : Nat)], .agg #[.bool v', .int .u64 (hi' : Nat), .int .u64 (lo' : Nat)]] w fun e w' => e = .returned (.bool (if v = v' then decide (hi < hi') || (decide (hi = hi') && decide (lo < lo')) else v')) ∧ Below w.heap.size w w' := by
  have e1 : (v == v') = decide (v = v') := by cases v <;> cases v' <;> rfl
  by_cases h1 : v = v'
  · subst h1
    rw [if_pos rfl]
    clear e1
    by_cases h2 : hi = hi'
    · subst h2
      rw [show (decide (hi < hi) || (decide (hi = hi) && decide (lo < lo'))) = decide (lo < lo') by simp]
      go_enter Tryd.func18, Tryd.ntmps18
      go_wp2_with fail
      go_ret
      exact ⟨rfl, (by repeat (first | exact Below.refl _ _ | assumption | refine below_alloc ?_ _ | refine below_chain (by assumption) ?_ | refine below_call2 (by assumption) ?_ (by first | omega | (simp; done) | (simp; omega) | (simp [World.setCell]; omega)) | refine below_drewN ?_ _ | refine Below.drew ?_ | refine Below.alloc ?_ (by first | omega | (simp; done) | (simp; omega) | (simp [World.setCell]; omega)) _ | refine Below.setCell ?_ (by first | omega | (simp; done) | (simp; omega) | (simp [World.setCell]; omega)) _))⟩
    · have h3 : ((hi : Int) == (hi' : Int)) = false := by rw [beq_eq_false_iff_ne]; omega
      by_cases h4 : hi < hi'
      · rw [show (decide (hi < hi') || (decide (hi = hi') && decide (lo < lo'))) = true by simp [h4]]
        replace h2 := Lib.hid h2
        go_enter Tryd.func18, Tryd.ntmps18
        go_wp2_with fail
        go_ret
        exact ⟨rfl, (by repeat (first | exact Below.refl _ _ | assumption | refine below_alloc ?_ _ | refine below_chain (by assumption) ?_ | refine below_call2 (by assumption) ?_ (by first | omega | (simp; done) | (simp; omega) | (simp [World.setCell]; omega)) | refine below_drewN ?_ _ | refine Below.drew ?_ | refine Below.alloc ?_ (by first | omega | (simp; done) | (simp; omega) | (simp [World.setCell]; omega)) _ | refine Below.setCell ?_ (by first | omega | (simp; done) | (simp; omega) | (simp [World.setCell]; omega)) _))⟩
      · rw [show (decide (hi < hi') || (decide (hi = hi') && decide (lo < lo'))) = false by simp [h2, h4]]
        replace h2 := Lib.hid h2
        go_enter Tryd.func18, Tryd.ntmps18
        go_wp2_with fail
        go_ret
        exact ⟨rfl, (by repeat (first | exact Below.refl _ _ | assumption | refine below_alloc ?_ _ | refine below_chain (by assumption) ?_ | refine below_call2 (by assumption) ?_ (by first | omega | (simp; done) | (simp; omega) | (simp [World.setCell]; omega)) | refine below_drewN ?_ _ | refine Below.drew ?_ | refine Below.alloc ?_ (by first | omega | (simp; done) | (simp; omega) | (simp [World.setCell]; omega)) _ | refine Below.setCell ?_ (by first | omega | (simp; done) | (simp; omega) | (simp [World.setCell]; omega)) _))⟩
  · rw [if_neg h1]
    have h3 : (v == v') = false := by rw [e1]; simpa using h1
    clear e1
    replace h1 := Lib.hid h1
    go_enter Tryd.func18, Tryd.ntmps18
    go_wp2_with fail
    go_ret
    exact ⟨rfl, (by repeat (first | exact Below.refl _ _ | assumption | refine below_alloc ?_ _ | refine below_chain (by assumption) ?_ | refine below_call2 (by assumption) ?_ (by first | omega | (simp; done) | (simp; omega) | (simp [World.setCell]; omega)) | refine below_drewN ?_ _ | refine Below.drew ?_ | refine Below.alloc ?_ (by first | omega | (simp; done) | (simp; omega) | (simp [World.setCell]; omega)) _ | refine Below.setCell ?_ (by first | omega | (simp; done) | (simp; omega) | (simp [World.setCell]; omega)) _))⟩

theorem conv_dig (r : Nat) (W : World) (hr : r < 10) : (convert 54 9 (.slice (some ⟨W.heap.size, 0, none⟩) 1 1)).run Tryd.prog (W.alloc (.cells #[.int .u8 (48 + (r : Int))] 5)) = .ok (.string ⟨#[UInt8.ofNat (48 + r)]⟩) (W.alloc (.cells #[.int .u8 (48 + (r : Int))] 5)) :=
  run_convert_bytes_back (P := Tryd.prog) _ 54 9 5 ⟨W.heap.size, 0, none⟩ 1 [UInt8.ofNat (48 + r)] Tryd.underlying54 Tryd.underlying5 Tryd.underlying9 (fun i hi => by
    have hi' : i = 0 := by simpa using hi
    subst hi'
    have := (Blk.new W 5 #[.int .u8 (48 + (r : Int))]).cell 0
    simp only [Addr.add, Nat.zero_add] at this ⊢
    simp
    omega)

set_option maxRecDepth 100000 in
set_option maxHeartbeats 4000000 in
theorem ref_digits_nat : ∀ (n : Nat) (w : World), n < 9223372036854775808 → Calls Tryd.prog 39 #[.int .i64 n] w fun e w' => e = .returned (.string ⟨(Lib.decDigits n).toArray⟩) ∧ Below w.heap.size w w' := by
  intro n
  induction n using Nat.strongRecOn with
  | _ n ih =>
    intro w hn
    obtain ⟨r, hr⟩ : ∃ r, n % 10 = r := ⟨_, rfl⟩
    have hr10 : r < 10 := by omega
    have hcv := fun W => conv_dig r W hr10
    have t3 : (n : Int).tmod 10 = (r : Int) := by rw [← hr]; simp [Int.tmod]
    have h0 : ¬ (n : Int) < 0 := by omega
    have hu : IntKind.u8.wrap (48 + (r : Int)) = 48 + (r : Int) := by rw [IntKind.wrap_u8]; omega
    obtain ⟨R, hR⟩ : ∃ R, Lib.decDigits n = R := ⟨_, rfl⟩
    rw [hR]
    by_cases h : n < 10
    · have g : (n : Int) < 10 := by omega
      have hR2 : R = [UInt8.ofNat (48 + r)] := by rw [← hR, Lib.decDigits_one h]; congr 3; omega
      subst hR2
      clear ih hR
      replace hr := Lib.hid hr
      go_enter Tryd.func39, Tryd.ntmps39
      go_wp2_with fail
      go_ret
      exact ⟨by simp, (Below.refl _ _).alloc (Nat.le_refl _) _⟩
    · have g : ¬ (n : Int) < 10 := by omega
      obtain ⟨q, hq⟩ : ∃ q, n / 10 = q := ⟨_, rfl⟩
      have hR2 : R = Lib.decDigits q ++ [UInt8.ofNat (48 + r)] := by rw [← hR, decDigits_big h, hq, hr]
      have t2 : (n : Int).tdiv 10 = (q : Int) := by rw [← hq]; simp [Int.tdiv]
      have hwq : wrap64 (q : Int) = (q : Int) := by unfold wrap64; omega
      have D := Lib.hid (fun W => ih q (by omega) W (by omega))
      have hl := Lib.decDigits_length q
      have hl2 : (Lib.decDigits q).length ≤ 30 := by
        have h1 : 1 ≤ q := by omega
        have := Lib.numDigits_eq q h1 (by omega)
        rw [hl]
        split at this <;> omega
      have hcat : (ByteArray.mk (Lib.decDigits q).toArray) ++ ⟨#[UInt8.ofNat (48 + r)]⟩ = ⟨R.toArray⟩ := by rw [hR2]; exact str_append (Lib.decDigits q) [UInt8.ofNat (48 + r)]
      generalize Lib.decDigits q = Q at *
      generalize UInt8.ofNat (48 + r) = cc at *
      have hss : ¬ 9223372036854775807 < Q.length + 1 := by omega
      clear ih hR hR2 hl
      replace hcat := Lib.hid hcat
      replace hr := Lib.hid hr
      replace hq := Lib.hid hq
      have hb0 : Below w.heap.size w (w.alloc (.cells #[.int .u8 (48 + (r : Int))] 5)) := (Below.refl _ _).alloc (Nat.le_refl _) _
      go_enter Tryd.func39, Tryd.ntmps39
      go_wp2_with (go_at_call 39; (with_reducible refine (D.out _).mono ?_); rintro e w2 ⟨rfl, hb2⟩)
      go_ret
      exact ⟨by rw [← hcat.out]; rfl, below_chain hb2 hb0⟩

set_option maxRecDepth 100000 in
set_option maxHeartbeats 4000000 in
theorem ref_digits_neg : ∀ (n : Nat) (w : World), 1 ≤ n → n ≤ 9223372036854775808 → Calls Tryd.prog 39 #[.int .i64 (-(n : Int))] w fun e w' => e = .returned (.string ⟨(45 :: Lib.decDigits n).toArray⟩) ∧ Below w.heap.size w w' := by
  intro n
  induction n using Nat.strongRecOn with
  | _ n ih =>
    intro w h1 hn
    obtain ⟨r, hr⟩ : ∃ r, n % 10 = r := ⟨_, rfl⟩
    have hr10 : r < 10 := by omega
    have h0 : -(n : Int) < 0 := by omega
    obtain ⟨R, hR⟩ : ∃ R, Lib.decDigits n = R := ⟨_, rfl⟩
    rw [hR]
    by_cases h : n < 10
    · have g : (-10 : Int) < -(n : Int) := by omega
      have D := ref_digits_nat n
      rw [hR] at D
      have D2 := Lib.hid (fun W => D W (by omega))
      have hRl : R.length = 1 := by rw [← hR, Lib.decDigits_one h]; rfl
      have hcat : (ByteArray.mk #[45]) ++ ⟨R.toArray⟩ = ⟨(45 :: R).toArray⟩ := str_append [45] R
      have hss : ¬ 9223372036854775807 < 1 + R.length := by omega
      have hw : IntKind.i64.wrap (- -(n : Int)) = (n : Int) := by rw [IntKind.wrap_i64]; omega
      have hw2 : wrap64 (- -(n : Int)) = (n : Int) := by unfold wrap64; omega
      clear ih hR D
      replace hcat := Lib.hid hcat
      replace hr := Lib.hid hr
      obtain ⟨m, hm⟩ : ∃ m : Int, -(n : Int) = m := ⟨_, rfl⟩
      rw [hm] at h0 g hw hw2 ⊢
      replace hm := Lib.hid hm
      go_enter Tryd.func39, Tryd.ntmps39
      go_wp2_with (go_at_call 39; (with_reducible refine (D2.out _).mono ?_); rintro e w2 ⟨rfl, hb2⟩)
      go_ret
      exact ⟨by rw [← hcat.out]; rfl, hb2⟩
    · have g : ¬ (-10 : Int) < -(n : Int) := by omega
      obtain ⟨q, hq⟩ : ∃ q, n / 10 = q := ⟨_, rfl⟩
      have hR2 : R = Lib.decDigits q ++ Lib.decDigits r := by rw [← hR, decDigits_big h, hq, hr, Lib.decDigits_one hr10]
      have D := Lib.hid (fun W => ih q (by omega) W (by omega) (by omega))
      have E := Lib.hid (fun W => ref_digits_nat r W (by omega))
      have t2 : (-(n : Int)).tdiv 10 = -(q : Int) := by rw [Int.neg_tdiv, ← hq]; simp [Int.tdiv]
      have t3 : (-(n : Int)).tmod 10 = -(r : Int) := by rw [Int.neg_tmod, ← hr]; simp [Int.tmod]
      have hwq : wrap64 (-(q : Int)) = -(q : Int) := by unfold wrap64; omega
      have hwr : wrap64 (r : Int) = (r : Int) := by unfold wrap64; omega
      have hl := Lib.decDigits_length q
      have hl2 : (Lib.decDigits q).length ≤ 30 := by
        have h1 : 1 ≤ q := by omega
        have := Lib.numDigits_eq q h1 (by omega)
        rw [hl]
        split at this <;> omega
      have hl3 : (Lib.decDigits r).length = 1 := by rw [Lib.decDigits_one hr10]; rfl
      have hcat : (ByteArray.mk (45 :: Lib.decDigits q).toArray) ++ ⟨(Lib.decDigits r).toArray⟩ = ⟨(45 :: R).toArray⟩ := by rw [hR2]; exact str_append (45 :: Lib.decDigits q) (Lib.decDigits r)
      have hss : ¬ 9223372036854775807 < (45 :: Lib.decDigits q).length + (Lib.decDigits r).length := by simp; omega
      generalize 45 :: Lib.decDigits q = Q at *
      generalize Lib.decDigits r = cc at *
      clear ih hR hR2 hl hl2 hl3
      replace hcat := Lib.hid hcat
      replace hr := Lib.hid hr
      replace hq := Lib.hid hq
      obtain ⟨m, hm⟩ : ∃ m : Int, -(n : Int) = m := ⟨_, rfl⟩
      rw [hm] at h0 g t2 t3 ⊢
      replace hm := Lib.hid hm
      go_enter Tryd.func39, Tryd.ntmps39
      go_wp2_with (go_at_call 39; (first | (with_reducible refine (D.out _).mono ?_; rintro e w2 ⟨rfl, hb2⟩) | (with_reducible refine (E.out _).mono ?_; rintro e w3 ⟨rfl, hb3⟩)))
      go_ret
      exact ⟨by rw [← hcat.out]; rfl, below_chain hb3 hb2⟩
theorem ref_digits (n : Int) (w : World) (h0 : -9223372036854775808 ≤ n) (h1 : n ≤ 9223372036854775807) :
    Calls Tryd.prog 39 #[.int .i64 n] w fun e w' => e = .returned (.string ⟨(Lib.itoa n).toArray⟩) ∧ Below w.heap.size w w' := by
  unfold Lib.itoa
  by_cases h : n < 0
  · rw [if_pos h]
    have := ref_digits_neg n.natAbs w (by omega) (by omega)
    rw [show -(n.natAbs : Int) = n by omega] at this
    exact this
  · rw [if_neg h]
    have := ref_digits_nat n.toNat w (by omega)
    rw [show ((n.toNat : Nat) : Int) = n by omega] at this
    exact this
end Go.Proofs.YtodbgjnccngljaaDoor
