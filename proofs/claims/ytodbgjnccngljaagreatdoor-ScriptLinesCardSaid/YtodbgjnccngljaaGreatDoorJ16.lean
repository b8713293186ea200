/- The reference's addresses: Read. (Printed by gen_adP.py.) addr: Four; addresses compared; the laws' example. -/
import Derived.Test.YtodbgjnccngljaaGreatDoorJ15
import Derived.Test.YtodbgjnccngljaaGreatDoorJ13
import Derived.Deep.Cut
import Derived.Laws.StructEq
namespace Go.Proofs.YtodbgjnccngljaaGreatDoor
open Go Go.RowKit Go.Deep
theorem flat_succ (f : List UInt8 → List UInt8) (ws : List (List UInt8)) {j : Nat} (h : j < ws.length) : (ws.take (j + 1)).flatMap f = (ws.take j).flatMap f ++ f (ws.getD j []) := by
 rw [take_snoc ws h, List.flatMap_append]; simp
theorem unhexV_lit (l : List UInt8) : ∃ o : Bool, unhexV l = .tuple #[.string ⟨((unhexL l).getD []).toArray⟩, .bool o] := by
 unfold unhexV
 cases unhexL l with
 | none => exact ⟨false, rfl⟩
 | some b => exact ⟨true, rfl⟩
theorem getD_mem_len {ws : List (List UInt8)} {n : Nat} (h : ∀ x ∈ ws, x.length ≤ n) (j : Nat) : (ws.getD j []).length ≤ n := by
 rw [List.getD_eq_getElem?_getD]
 cases hj : ws[j]? with
 | none => simp
 | some x => exact h x (List.mem_of_getElem? hj)
theorem unhex_len_le (l : List UInt8) : ((unhexL l).getD []).length ≤ l.length := by
 cases h : unhexL l with
 | none => simp
 | some b => have := unhexL_len l b h; simp; omega
set_option maxRecDepth 100000 in
set_option maxHeartbeats 16000000 in
theorem refaddr_read (l : List UInt8) (w : World) (hL : l.length ≤ 10000) :
  Calls Tryz.prog 36 #[.string ⟨l.toArray⟩] w fun e w' => e = .returned (adrT (readA l)) ∧ Below w.heap.size w w' := by
 have K := Blk.new w 24 #[.bool false, .int .u64 0, .int .u64 0]
 have hb0 : Below w.heap.size w (w.alloc (.cells #[.bool false, .int .u64 0, .int .u64 0] 24)) := (Below.refl _ _).alloc (Nat.le_refl _) _
 have P := fun W => ref_parts l 46 W (by omega)
 have G := fun W => ref_parts l 58 W (by omega)
 rw [show (((46 : UInt8).toNat : Nat) : Int) = 46 from rfl] at P
 rw [show (((58 : UInt8).toNat : Nat) : Int) = 58 from rfl] at G
 have hp4 := (parts_len 46 l).2
 have hp8 := (parts_len 58 l).2
 have hR := refread_eq l
 have hB : refB l = if (parts 46 l).length = 4 then (parts 46 l).flatMap fun p => octB (numL p) 1 else if (parts 58 l).length = 8 then (parts 58 l).flatMap fun p => (unhexL p).getD [] else [] := rfl
 obtain ⟨x4, h4⟩ : ∃ x, parts 46 l = x := ⟨_, rfl⟩
 obtain ⟨x6, h6⟩ : ∃ x, parts 58 l = x := ⟨_, rfl⟩
 obtain ⟨R, hRd⟩ : ∃ R, readA l = R := ⟨_, rfl⟩
 obtain ⟨B, hBd⟩ : ∃ B, refB l = B := ⟨_, rfl⟩
 rw [h4] at P hp4 hB
 rw [h6] at G hp8 hB
 rw [hRd] at hR ⊢
 rw [hBd] at hB hR
 clear h4 h6 hRd hBd
 replace P := Lib.hid P
 replace G := Lib.hid G
 replace hR := Lib.hid hR
 replace hp4 := Lib.hid hp4
 replace hp8 := Lib.hid hp8
 go_enter Tryz.func36, Tryz.ntmps36
 go_upto_region 3 with (first
  | (go_at_call 31; (with_reducible refine (P.out _).mono ?_); rintro e w1 ⟨A4, k4, rfl, hO4, hb1⟩)
  | (go_at_call 31; (with_reducible refine (G.out _).mono ?_); rintro e w2 ⟨A6, k6, rfl, hO6, hb2⟩))
 have K2 := (K.call hb1).call hb2
 have hb2A := below_chain hb2 (below_chain hb1 hb0)
 have hO4' : OwnS w2 _ A4 k4 x4 := OwnA.call hO4 hb2
 clear K hb0 hb1 hb2 hO4 P G
 by_cases hl4 : x4.length = 4
 ·
  have e4 : ((x4.length : Int) == 4) = true := by rw [hl4]; rfl
  rw [if_pos hl4] at hB
  have hBt : B = (x4.take 4).flatMap fun p => octB (numL p) 1 := by rw [hB, List.take_of_length_le (by omega)]
  clear hB
  have hge := Nat.le_of_eq hl4.symm
  clear hl4
  replace hBt := Lib.hid hBt
  go_wp2_with fail
  go_loopw [4, 7] (fun s i wr => ∃ (j : Nat) (b : List UInt8), j ≤ 4 ∧ i = .int .i64 (j : Nat) ∧ s = .string ⟨b.toArray⟩ ∧ b.length = j ∧ b = ((x4.take j).flatMap fun p => octB (numL p) 1) ∧ Below w2.heap.size w2 wr) (fun _ i _ => 4 - (intOf i).toNat)
  case atStart => exact ⟨0, [], by omega, rfl, rfl, rfl, rfl, Below.refl _ _⟩
  case round =>
   obtain ⟨j, b, hj, rfl, rfl, hbl, hbe, hb⟩ := hrel
   have hO := OwnA.call hO4' hb
   have Kr := K2.call hb
   have hbr := below_chain hb hb2A
   by_cases hlt : j < 4
   ·
    have hlti : (j : Int) < 4 := by omega
    obtain ⟨ad, rfl, hadb, hcx⟩ := own_at hO (show j < x4.length by omega)
    have hs := flat_succ (fun p => octB (numL p) 1) x4 (show j < x4.length by omega)
    have hxl := getD_mem_len hp4.out j
    generalize x4.getD j [] = x at *
    have N := Lib.hid (fun W => ref_number x W (by omega))
    have hnl : numL x < 5764607523034234890 := by
     unfold numL
     split
     · exact numFold_lt x 0 (by omega)
     · omega
    obtain ⟨n, hn⟩ : ∃ n, numL x = n := ⟨_, rfl⟩
    rw [hn] at N hnl
    replace hs := hs.trans (show _ = b ++ [UInt8.ofNat n] by rw [← hbe]; show b ++ octB (numL x) 1 = _; rw [octB_one, hn])
    have Q := fun W => refoct_put n 1 W (by omega) (by omega)
    rw [octB_one, show ((1 : Nat) : Int) = 1 from rfl] at Q
    replace Q := Lib.hid Q
    have hu : IntKind.u64.wrap (n : Int) = (n : Int) := by rw [IntKind.wrap_u64]; omega
    have hcat : (ByteArray.mk b.toArray) ++ ⟨#[UInt8.ofNat n]⟩ = ⟨(b ++ [UInt8.ofNat n]).toArray⟩ := str_append b [UInt8.ofNat n]
    have hss : ¬ 9223372036854775807 < b.length + 1 := by omega
    replace hs := Lib.hid hs
    replace hn := Lib.hid hn
    replace hcat := Lib.hid hcat
    replace hbe := Lib.hid hbe
    generalize UInt8.ofNat n = cc at *
    go_wp2_with (first
     | (go_at_call 61; (with_reducible refine (N.out _).mono ?_); rintro e w3 ⟨rfl, hb3⟩)
     | (go_at_call 63; (with_reducible refine (Q.out _).mono ?_); rintro e w4 ⟨rfl, hb4⟩))
    go_roundw
    case rel => exact ⟨j + 1, b ++ [cc], by omega, by go_num, by rw [← hcat.out], by simp [hbl], hs.out.symm, below_chain hb4 (below_chain hb3 hb)⟩
    case measure => simp [intOf]; omega
   ·
    have hlti : ¬ (j : Int) < 4 := by omega
    obtain rfl : j = 4 := by omega
    have hbe2 : B = b := hBt.out.trans hbe.symm
    clear hbe hBt
    subst hbe2
    clear hO
    cases hg : getA B with
    | none =>
     have GG := refaddr_get B wr
     rw [hg] at GG
     have GL := Lib.hid (show Calls Tryz.prog 64 #[.string ⟨B.toArray⟩] wr fun e w' => e = .returned (.tuple #[.agg #[.bool false, .int .u64 0, .int .u64 0], .bool false]) ∧ Below wr.heap.size wr w' from GG)
     have hRn : R = none := by rw [hR.out, hg]
     subst hRn
     clear GG hg
     go_upto_region 15 with (go_at_call 64; (with_reducible refine GL.out.mono ?_); rintro e w4 ⟨rfl, hb4⟩)
     have K2 := (Kr.call hb4).alloc (.cells #[.bool false, .int .u64 0, .int .u64 0] 24)
     have hbA := below_alloc (below_chain hb4 hbr) (.cells #[.bool false, .int .u64 0, .int .u64 0] 24)
     generalize w4.alloc (.cells #[.bool false, .int .u64 0, .int .u64 0] 24) = w5 at *
     obtain ⟨⟨c0, c1, c2⟩, f0, f1, f2⟩ := blk3 K2
     replace K2 := Lib.hid K2
     go_wp2_with fail
     have K3 := blk3_set K2.out (.bool false) (.int .u64 0) (.int .u64 0); have hb3 := below_set3 hbA (Nat.le_refl _) (.bool false) (.int .u64 0) (.int .u64 0); generalize (((w5.setCell ⟨w.heap.size, 0, none⟩ (.bool false)).setCell ⟨w.heap.size, 1, none⟩ (.int .u64 0)).setCell ⟨w.heap.size, 2, none⟩ (.int .u64 0)) = w3 at *; clear c0 c1 c2 f0 f1 f2; obtain ⟨⟨c0, c1, c2⟩, f0, f1, f2⟩ := blk3 K3; replace K3 := Lib.hid K3; refine bodyPost_ret (v := .tuple #[.agg #[.bool false, .int .u64 0, .int .u64 0], .bool false]) (by simp [results, Tryz.results36, go_sem, *]) rfl ?_
     exact ⟨rfl, hb3⟩
    | some r =>
     obtain ⟨v, hi, lo⟩ := r
     obtain ⟨_, _, hhi, hlo⟩ := put_getA hg
     have GG := refaddr_get B wr
     rw [hg] at GG
     have GL := Lib.hid (show Calls Tryz.prog 64 #[.string ⟨B.toArray⟩] wr fun e w' => e = .returned (.tuple #[.agg #[.bool v, .int .u64 (hi : Nat), .int .u64 (lo : Nat)], .bool true]) ∧ Below wr.heap.size wr w' from GG)
     have T := Lib.hid (fun W => refaddr_text v hi lo W hhi hlo)
     have hR2 : R = if adrTxt v hi lo = l then some (v, hi, lo) else none := by rw [hR.out, hg]
     obtain ⟨D, hD⟩ : ∃ D, adrTxt v hi lo = D := ⟨_, rfl⟩
     rw [hD] at T hR2
     clear GG hg
     replace hD := Lib.hid hD
     go_upto_region 15 with (go_at_call 64; (with_reducible refine GL.out.mono ?_); rintro e w4 ⟨rfl, hb4⟩)
     have N2 := Blk.new w4 24 #[.bool v, .int .u64 (hi : Nat), .int .u64 (lo : Nat)]
     have K2 := (Kr.call hb4).alloc (.cells #[.bool v, .int .u64 (hi : Nat), .int .u64 (lo : Nat)] 24)
     have hbA := below_alloc (below_chain hb4 hbr) (.cells #[.bool v, .int .u64 (hi : Nat), .int .u64 (lo : Nat)] 24)
     generalize w4.alloc (.cells #[.bool v, .int .u64 (hi : Nat), .int .u64 (lo : Nat)] 24) = w5 at *
     have K5 := K2
     have N5 := N2
     have hb5 := hbA
     obtain ⟨⟨n0, n1, n2⟩, -, -, -⟩ := blk3 N2
     replace K2 := Lib.hid K2
     replace K5 := Lib.hid K5
     replace N5 := Lib.hid N5
     clear hbA hb4 N2 K2
     by_cases hDl : D = l
     ·
      rw [if_pos hDl] at hR2
      subst hR2
      have heq : (D == l) = true := by simpa using hDl
      replace hDl := Lib.hid hDl
      go_wp2_with (go_at_call 27; (with_reducible refine (T.out _).mono ?_); rintro e w6 ⟨rfl, hb6⟩; clear n0 n1 n2; have K2 := K5.out.call hb6; have hbA := below_chain hb6 hb5; obtain ⟨⟨c0, c1, c2⟩, f0, f1, f2⟩ := blk3 K2; obtain ⟨⟨n0, n1, n2⟩, -, -, -⟩ := blk3 (N5.out.call hb6); replace K2 := Lib.hid K2)
      clear n0 n1 n2
      have K3 := blk3_set K2.out (.bool v) (.int .u64 (hi : Nat)) (.int .u64 (lo : Nat)); have hb3 := below_set3 hbA (Nat.le_refl _) (.bool v) (.int .u64 (hi : Nat)) (.int .u64 (lo : Nat)); generalize (((w6.setCell ⟨w.heap.size, 0, none⟩ (.bool v)).setCell ⟨w.heap.size, 1, none⟩ (.int .u64 (hi : Nat))).setCell ⟨w.heap.size, 2, none⟩ (.int .u64 (lo : Nat))) = w3 at *; clear c0 c1 c2 f0 f1 f2; obtain ⟨⟨c0, c1, c2⟩, f0, f1, f2⟩ := blk3 K3; replace K3 := Lib.hid K3; refine bodyPost_ret (v := .tuple #[.agg #[.bool v, .int .u64 (hi : Nat), .int .u64 (lo : Nat)], .bool true]) (by simp [results, Tryz.results36, go_sem, *]) rfl ?_
      exact ⟨rfl, hb3⟩
     ·
      rw [if_neg hDl] at hR2
      subst hR2
      have heq : (D == l) = false := by simpa using hDl
      replace hDl := Lib.hid hDl
      go_wp2_with (go_at_call 27; (with_reducible refine (T.out _).mono ?_); rintro e w6 ⟨rfl, hb6⟩; clear n0 n1 n2; have K2 := K5.out.call hb6; have hbA := below_chain hb6 hb5; obtain ⟨⟨c0, c1, c2⟩, f0, f1, f2⟩ := blk3 K2; replace K2 := Lib.hid K2)
      have K3 := blk3_set K2.out (.bool false) (.int .u64 0) (.int .u64 0); have hb3 := below_set3 hbA (Nat.le_refl _) (.bool false) (.int .u64 0) (.int .u64 0); generalize (((w6.setCell ⟨w.heap.size, 0, none⟩ (.bool false)).setCell ⟨w.heap.size, 1, none⟩ (.int .u64 0)).setCell ⟨w.heap.size, 2, none⟩ (.int .u64 0)) = w3 at *; clear c0 c1 c2 f0 f1 f2; obtain ⟨⟨c0, c1, c2⟩, f0, f1, f2⟩ := blk3 K3; replace K3 := Lib.hid K3; refine bodyPost_ret (v := .tuple #[.agg #[.bool false, .int .u64 0, .int .u64 0], .bool false]) (by simp [results, Tryz.results36, go_sem, *]) rfl ?_
      exact ⟨rfl, hb3⟩
 have e4 : ((x4.length : Int) == 4) = false := by rw [beq_eq_false_iff_ne]; omega
 rw [if_neg hl4] at hB
 clear hO4' hp4 hl4
 by_cases hl8 : x6.length = 8
 ·
  have e8 : ((x6.length : Int) == 8) = true := by rw [hl8]; rfl
  rw [if_pos hl8] at hB
  have hBt : B = (x6.take 8).flatMap fun p => (unhexL p).getD [] := by rw [hB, List.take_of_length_le (by omega)]
  clear hB
  have hge := Nat.le_of_eq hl8.symm
  clear hl8
  replace hBt := Lib.hid hBt
  go_wp2_with fail
  go_loopw [4, 8] (fun s i wr => ∃ (j : Nat) (b : List UInt8), j ≤ 8 ∧ i = .int .i64 (j : Nat) ∧ s = .string ⟨b.toArray⟩ ∧ b.length ≤ j * 10000 ∧ b = ((x6.take j).flatMap fun p => (unhexL p).getD []) ∧ Below w2.heap.size w2 wr) (fun _ i _ => 8 - (intOf i).toNat)
  case atStart => exact ⟨0, [], by omega, rfl, rfl, by simp, rfl, Below.refl _ _⟩
  case round =>
   obtain ⟨j, b, hj, rfl, rfl, hbl, hbe, hb⟩ := hrel
   have hO := OwnA.call hO6 hb
   have Kr := K2.call hb
   have hbr := below_chain hb hb2A
   by_cases hlt : j < 8
   ·
    have hlti : (j : Int) < 8 := by omega
    obtain ⟨ad, rfl, hadb, hcx⟩ := own_at hO (show j < x6.length by omega)
    have hs := flat_succ (fun p => (unhexL p).getD []) x6 (show j < x6.length by omega)
    have hxl := getD_mem_len hp8.out j
    generalize x6.getD j [] = x at *
    obtain ⟨o, ho⟩ := unhexV_lit x
    have N := fun W => ref_unhex x W (by omega)
    rw [ho] at N
    have hul := unhex_len_le x
    generalize (unhexL x).getD [] = u at *
    replace N := Lib.hid N
    have hcat : (ByteArray.mk b.toArray) ++ ⟨u.toArray⟩ = ⟨(b ++ u).toArray⟩ := str_append b u
    have hss : ¬ 9223372036854775807 < b.length + u.length := by omega
    have hlen : (b ++ u).length ≤ (j + 1) * 10000 := by simp; omega
    rw [← hbe] at hs
    replace hs := Lib.hid hs
    replace ho := Lib.hid ho
    replace hcat := Lib.hid hcat
    replace hbe := Lib.hid hbe
    replace hlen := Lib.hid hlen
    go_wp2_with (go_at_call 34; (with_reducible refine (N.out _).mono ?_); rintro e w3 ⟨rfl, hb3⟩)
    go_roundw
    case rel => exact ⟨j + 1, b ++ u, by omega, by go_num, by rw [← hcat.out], hlen.out, hs.out.symm, below_chain hb3 hb⟩
    case measure => simp [intOf]; omega
   ·
    have hlti : ¬ (j : Int) < 8 := by omega
    obtain rfl : j = 8 := by omega
    have hbe2 : B = b := hBt.out.trans hbe.symm
    clear hbe hBt
    subst hbe2
    clear hO
    cases hg : getA B with
    | none =>
     have GG := refaddr_get B wr
     rw [hg] at GG
     have GL := Lib.hid (show Calls Tryz.prog 64 #[.string ⟨B.toArray⟩] wr fun e w' => e = .returned (.tuple #[.agg #[.bool false, .int .u64 0, .int .u64 0], .bool false]) ∧ Below wr.heap.size wr w' from GG)
     have hRn : R = none := by rw [hR.out, hg]
     subst hRn
     clear GG hg
     go_upto_region 15 with (go_at_call 64; (with_reducible refine GL.out.mono ?_); rintro e w4 ⟨rfl, hb4⟩)
     have K2 := (Kr.call hb4).alloc (.cells #[.bool false, .int .u64 0, .int .u64 0] 24)
     have hbA := below_alloc (below_chain hb4 hbr) (.cells #[.bool false, .int .u64 0, .int .u64 0] 24)
     generalize w4.alloc (.cells #[.bool false, .int .u64 0, .int .u64 0] 24) = w5 at *
     obtain ⟨⟨c0, c1, c2⟩, f0, f1, f2⟩ := blk3 K2
     replace K2 := Lib.hid K2
     go_wp2_with fail
     have K3 := blk3_set K2.out (.bool false) (.int .u64 0) (.int .u64 0); have hb3 := below_set3 hbA (Nat.le_refl _) (.bool false) (.int .u64 0) (.int .u64 0); generalize (((w5.setCell ⟨w.heap.size, 0, none⟩ (.bool false)).setCell ⟨w.heap.size, 1, none⟩ (.int .u64 0)).setCell ⟨w.heap.size, 2, none⟩ (.int .u64 0)) = w3 at *; clear c0 c1 c2 f0 f1 f2; obtain ⟨⟨c0, c1, c2⟩, f0, f1, f2⟩ := blk3 K3; replace K3 := Lib.hid K3; refine bodyPost_ret (v := .tuple #[.agg #[.bool false, .int .u64 0, .int .u64 0], .bool false]) (by simp [results, Tryz.results36, go_sem, *]) rfl ?_
     exact ⟨rfl, hb3⟩
    | some r =>
     obtain ⟨v, hi, lo⟩ := r
     obtain ⟨_, _, hhi, hlo⟩ := put_getA hg
     have GG := refaddr_get B wr
     rw [hg] at GG
     have GL := Lib.hid (show Calls Tryz.prog 64 #[.string ⟨B.toArray⟩] wr fun e w' => e = .returned (.tuple #[.agg #[.bool v, .int .u64 (hi : Nat), .int .u64 (lo : Nat)], .bool true]) ∧ Below wr.heap.size wr w' from GG)
     have T := Lib.hid (fun W => refaddr_text v hi lo W hhi hlo)
     have hR2 : R = if adrTxt v hi lo = l then some (v, hi, lo) else none := by rw [hR.out, hg]
     obtain ⟨D, hD⟩ : ∃ D, adrTxt v hi lo = D := ⟨_, rfl⟩
     rw [hD] at T hR2
     clear GG hg
     replace hD := Lib.hid hD
     go_upto_region 15 with (go_at_call 64; (with_reducible refine GL.out.mono ?_); rintro e w4 ⟨rfl, hb4⟩)
     have N2 := Blk.new w4 24 #[.bool v, .int .u64 (hi : Nat), .int .u64 (lo : Nat)]
     have K2 := (Kr.call hb4).alloc (.cells #[.bool v, .int .u64 (hi : Nat), .int .u64 (lo : Nat)] 24)
     have hbA := below_alloc (below_chain hb4 hbr) (.cells #[.bool v, .int .u64 (hi : Nat), .int .u64 (lo : Nat)] 24)
     generalize w4.alloc (.cells #[.bool v, .int .u64 (hi : Nat), .int .u64 (lo : Nat)] 24) = w5 at *
     have K5 := K2
     have N5 := N2
     have hb5 := hbA
     obtain ⟨⟨n0, n1, n2⟩, -, -, -⟩ := blk3 N2
     replace K2 := Lib.hid K2
     replace K5 := Lib.hid K5
     replace N5 := Lib.hid N5
     clear hbA hb4 N2 K2
     by_cases hDl : D = l
     ·
      rw [if_pos hDl] at hR2
      subst hR2
      have heq : (D == l) = true := by simpa using hDl
      replace hDl := Lib.hid hDl
      go_wp2_with (go_at_call 27; (with_reducible refine (T.out _).mono ?_); rintro e w6 ⟨rfl, hb6⟩; clear n0 n1 n2; have K2 := K5.out.call hb6; have hbA := below_chain hb6 hb5; obtain ⟨⟨c0, c1, c2⟩, f0, f1, f2⟩ := blk3 K2; obtain ⟨⟨n0, n1, n2⟩, -, -, -⟩ := blk3 (N5.out.call hb6); replace K2 := Lib.hid K2)
      clear n0 n1 n2
      have K3 := blk3_set K2.out (.bool v) (.int .u64 (hi : Nat)) (.int .u64 (lo : Nat)); have hb3 := below_set3 hbA (Nat.le_refl _) (.bool v) (.int .u64 (hi : Nat)) (.int .u64 (lo : Nat)); generalize (((w6.setCell ⟨w.heap.size, 0, none⟩ (.bool v)).setCell ⟨w.heap.size, 1, none⟩ (.int .u64 (hi : Nat))).setCell ⟨w.heap.size, 2, none⟩ (.int .u64 (lo : Nat))) = w3 at *; clear c0 c1 c2 f0 f1 f2; obtain ⟨⟨c0, c1, c2⟩, f0, f1, f2⟩ := blk3 K3; replace K3 := Lib.hid K3; refine bodyPost_ret (v := .tuple #[.agg #[.bool v, .int .u64 (hi : Nat), .int .u64 (lo : Nat)], .bool true]) (by simp [results, Tryz.results36, go_sem, *]) rfl ?_
      exact ⟨rfl, hb3⟩
     ·
      rw [if_neg hDl] at hR2
      subst hR2
      have heq : (D == l) = false := by simpa using hDl
      replace hDl := Lib.hid hDl
      go_wp2_with (go_at_call 27; (with_reducible refine (T.out _).mono ?_); rintro e w6 ⟨rfl, hb6⟩; clear n0 n1 n2; have K2 := K5.out.call hb6; have hbA := below_chain hb6 hb5; obtain ⟨⟨c0, c1, c2⟩, f0, f1, f2⟩ := blk3 K2; replace K2 := Lib.hid K2)
      have K3 := blk3_set K2.out (.bool false) (.int .u64 0) (.int .u64 0); have hb3 := below_set3 hbA (Nat.le_refl _) (.bool false) (.int .u64 0) (.int .u64 0); generalize (((w6.setCell ⟨w.heap.size, 0, none⟩ (.bool false)).setCell ⟨w.heap.size, 1, none⟩ (.int .u64 0)).setCell ⟨w.heap.size, 2, none⟩ (.int .u64 0)) = w3 at *; clear c0 c1 c2 f0 f1 f2; obtain ⟨⟨c0, c1, c2⟩, f0, f1, f2⟩ := blk3 K3; replace K3 := Lib.hid K3; refine bodyPost_ret (v := .tuple #[.agg #[.bool false, .int .u64 0, .int .u64 0], .bool false]) (by simp [results, Tryz.results36, go_sem, *]) rfl ?_
      exact ⟨rfl, hb3⟩
 have e8 : ((x6.length : Int) == 8) = false := by rw [beq_eq_false_iff_ne]; omega
 rw [if_neg hl8] at hB
 subst hB
 have Kr := K2
 have hbr := hb2A
 clear hO6 hp8 hl8
 have hg : getA [] = none := rfl
 have GG := refaddr_get [] w2
 rw [hg] at GG
 have GL := Lib.hid (show Calls Tryz.prog 64 #[.string ⟨#[]⟩] w2 fun e w' => e = .returned (.tuple #[.agg #[.bool false, .int .u64 0, .int .u64 0], .bool false]) ∧ Below w2.heap.size w2 w' from GG)
 have hRn : R = none := by rw [hR.out, hg]
 subst hRn
 clear GG hg
 go_upto_region 15 with (go_at_call 64; (with_reducible refine GL.out.mono ?_); rintro e w4 ⟨rfl, hb4⟩)
 have K2 := (Kr.call hb4).alloc (.cells #[.bool false, .int .u64 0, .int .u64 0] 24)
 have hbA := below_alloc (below_chain hb4 hbr) (.cells #[.bool false, .int .u64 0, .int .u64 0] 24)
 generalize w4.alloc (.cells #[.bool false, .int .u64 0, .int .u64 0] 24) = w5 at *
 obtain ⟨⟨c0, c1, c2⟩, f0, f1, f2⟩ := blk3 K2
 replace K2 := Lib.hid K2
 go_wp2_with fail
 have K3 := blk3_set K2.out (.bool false) (.int .u64 0) (.int .u64 0); have hb3 := below_set3 hbA (Nat.le_refl _) (.bool false) (.int .u64 0) (.int .u64 0); generalize (((w5.setCell ⟨w.heap.size, 0, none⟩ (.bool false)).setCell ⟨w.heap.size, 1, none⟩ (.int .u64 0)).setCell ⟨w.heap.size, 2, none⟩ (.int .u64 0)) = w3 at *; clear c0 c1 c2 f0 f1 f2; obtain ⟨⟨c0, c1, c2⟩, f0, f1, f2⟩ := blk3 K3; replace K3 := Lib.hid K3; refine bodyPost_ret (v := .tuple #[.agg #[.bool false, .int .u64 0, .int .u64 0], .bool false]) (by simp [results, Tryz.results36, go_sem, *]) rfl ?_
 exact ⟨rfl, hb3⟩
abbrev adrL (v : Bool) (hi lo : Nat) : Value := .agg #[.bool v, .int .u64 (hi : Nat), .int .u64 (lo : Nat)]
def adrB (v : Bool) (hi lo : Nat) (v' : Bool) (hi' lo' : Nat) : Bool := v == v' && (hi == hi' && lo == lo')
end Go.Proofs.YtodbgjnccngljaaGreatDoor
