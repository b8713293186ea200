/- The reference's addresses: Number, Text. -/
import Derived.Test.YtodbgjnccngljaaDoorAdN
import Derived.Test.YtodbgjnccngljaaDoorByteR
namespace Go.Proofs.YtodbgjnccngljaaDoor
open Go Go.RowKit Go.Deep

theorem numFold_succ (l : List UInt8) {j : Nat} (h : j < l.length) : (l.take (j + 1)).foldl numStep 0 = numStep ((l.take j).foldl numStep 0) (l.getD j 0) := by
  rw [List.take_add_one, List.getElem?_eq_getElem h, List.foldl_append, List.getD_eq_getElem?_getD, List.getElem?_eq_getElem h]
  rfl
set_option maxRecDepth 100000 in
set_option maxHeartbeats 4000000 in
theorem ref_number (l : List UInt8) (w : World) (hL : l.length ≤ 1000000) :
    Calls Tryd.prog 33 #[.string ⟨l.toArray⟩] w fun e w' => e = .returned (.int .i64 (numL l : Nat)) ∧ Below w.heap.size w w' := by
  by_cases h20 : l.length < 20
  · have g20 : (l.length : Int) < 20 := by omega
    have hres : numL l = l.foldl numStep 0 := by unfold numL; rw [if_pos h20]
    go_enter Tryd.func33, Tryd.ntmps33
    go_wp2_with fail
    go_loopw [3, 4] (fun n i wr => ∃ j : Nat, j ≤ l.length ∧ i = .int .i64 (j : Nat) ∧ n = .int .i64 ((l.take j).foldl numStep 0 : Nat) ∧ Below w.heap.size w wr) (fun _ i _ => l.length - (intOf i).toNat)
    case atStart => exact ⟨0, by omega, rfl, rfl, Below.refl _ _⟩
    case round =>
      obtain ⟨j, hj, rfl, rfl, hb⟩ := hrel
      by_cases hlt : j < l.length
      · have hlti : (j : Int) < (l.length : Int) := by omega
        have hi0 := fun W => idx_str l j W hlt
        have hs := numFold_succ l hlt
        have hn := numFold_lt (l.take j) 0 (by omega)
        have hcl : (l.getD j 0).toNat < 256 := (l.getD j 0).toNat_lt
        obtain ⟨n, hnd⟩ : ∃ n, (l.take j).foldl numStep 0 = n := ⟨_, rfl⟩
        rw [hnd] at hs hn ⊢
        rw [numStep] at hs
        obtain ⟨c, hcd⟩ : ∃ c, (l.getD j 0).toNat = c := ⟨_, rfl⟩
        rw [hcd] at hi0 hs hcl
        replace hcd := Lib.hid hcd
        replace hnd := Lib.hid hnd
        replace hres := Lib.hid hres
        by_cases h1 : 48 ≤ c
        · have d1 : (48 : Int) ≤ (c : Int) := by omega
          by_cases h2 : c ≤ 57
          · have d2 : (c : Int) ≤ 57 := by omega
            by_cases h3 : n < 576460752303423488
            · have d3 : (n : Int) < 576460752303423488 := by omega
              rw [if_pos ⟨h1, h2, h3⟩] at hs
              obtain ⟨d, hd⟩ : ∃ d, c - 48 = d := ⟨_, rfl⟩
              have hu : IntKind.u8.wrap ((c : Int) - 48) = (d : Int) := by rw [IntKind.wrap_u8]; omega
              have hd9 : d ≤ 9 := by omega
              rw [hd] at hs
              replace hs := Lib.hid hs
              replace hd := Lib.hid hd
              clear h1 h2 h3
              go_wp2_with fail
              go_roundw
              case rel => exact ⟨j + 1, by omega, by go_num, by rw [hs.out]; go_num, hb⟩
              case measure => simp [intOf]; omega
            · have d3 : ¬ (n : Int) < 576460752303423488 := by omega
              rw [if_neg (by omega)] at hs
              replace hs := Lib.hid hs
              clear h1 h2 h3
              go_wp2_with fail
              go_roundw
              case rel => exact ⟨j + 1, by omega, by go_num, by rw [hs.out], hb⟩
              case measure => simp [intOf]; omega
          · have d2 : ¬ (c : Int) ≤ 57 := by omega
            rw [if_neg (by omega)] at hs
            replace hs := Lib.hid hs
            clear h1 h2
            go_wp2_with fail
            go_roundw
            case rel => exact ⟨j + 1, by omega, by go_num, by rw [hs.out], hb⟩
            case measure => simp [intOf]; omega
        · have d1 : ¬ (48 : Int) ≤ (c : Int) := by omega
          rw [if_neg (by omega)] at hs
          replace hs := Lib.hid hs
          clear h1
          go_wp2_with fail
          go_roundw
          case rel => exact ⟨j + 1, by omega, by go_num, by rw [hs.out], hb⟩
          case measure => simp [intOf]; omega
      · have hlti : ¬ (j : Int) < (l.length : Int) := by omega
        obtain rfl : j = l.length := by omega
        rw [List.take_length] at *
        rw [← hres]
        replace hres := Lib.hid hres
        go_wp2_with fail
        go_ret
        exact ⟨rfl, hb⟩
  · have g20 : ¬ (l.length : Int) < 20 := by omega
    have g0 : (0 : Int) < (l.length : Int) := by omega
    have hres : numL l = 0 := by unfold numL; rw [if_neg h20]
    rw [hres]
    replace hres := Lib.hid hres
    go_enter Tryd.func33, Tryd.ntmps33
    go_wp2_with fail
    go_loopw [3, 4] (fun n i wr => i = .int .i64 0 ∧ n = .int .i64 0 ∧ wr = w) (fun _ _ _ => 0)
    case atStart => exact ⟨rfl, rfl, rfl⟩
    case round =>
      obtain ⟨rfl, rfl, rfl⟩ := hrel
      go_wp2_with fail
      go_ret
      exact ⟨rfl, Below.refl _ _⟩

theorem take_snoc (ws : List (List UInt8)) {j : Nat} (h : j < ws.length) : ws.take (j + 1) = ws.take j ++ [ws.getD j []] := by
  rw [List.take_add_one, List.getElem?_eq_getElem h, List.getD_eq_getElem?_getD, List.getElem?_eq_getElem h]
  rfl
set_option maxRecDepth 100000 in
set_option maxHeartbeats 8000000 in
theorem refaddr_text (v : Bool) (hi lo : Nat) (w : World) (hhi : hi < 18446744073709551616) (hlo : lo < 18446744073709551616) :
    Calls Tryd.prog 16 #[.agg #[.bool v, .int .u64 (hi : Nat), .int .u64 (lo : Nat)]] w fun e w' => e = .returned (.string ⟨(adrTxt v hi lo).toArray⟩) ∧ Below w.heap.size w w' := by
  have hb0 : Below w.heap.size w (w.alloc (.cells #[.bool v, .int .u64 (hi : Nat), .int .u64 (lo : Nat)] 24)) := (Below.refl _ _).alloc (Nat.le_refl _) _
  have P := Lib.hid (fun w => refaddr_put v hi lo w hhi hlo)
  obtain ⟨r, hr⟩ : ∃ r, adrTxt v hi lo = r := ⟨_, rfl⟩
  rw [hr]
  unfold adrTxt at hr
  have hbl := adrPut_len v hi lo
  obtain ⟨b, hb⟩ : ∃ b, adrPut v hi lo = b := ⟨_, rfl⟩
  rw [hb] at P hr hbl
  have hsb : (ByteArray.mk b.toArray).size = b.length := rfl
  clear hb
  by_cases h4 : b.length = 4
  · have e4 : ((b.length : Int) == 4) = true := by rw [h4]; rfl
    have e16 : ((b.length : Int) == 16) = false := by rw [h4]; rfl
    simp only [h4, if_true] at hr
    obtain ⟨ws, hws⟩ : ∃ ws, b.map (fun c => dec3 c.toNat) = ws := ⟨_, rfl⟩
    have hwl : ws.length = 4 := by rw [← hws, List.length_map, h4]
    have hwj : ∀ j, j < 4 → ws.getD j [] = dec3 (b.getD j 0).toNat := fun j hj => by
      rw [← hws, List.getD_eq_getElem?_getD, List.getElem?_map, List.getD_eq_getElem?_getD, List.getElem?_eq_getElem (by omega)]; rfl
    have hw3 : ∀ j, j < 4 → (ws.getD j []).length ≤ 3 := fun j hj => by rw [hwj j hj]; exact dec3_len _
    have hrj : r = Lib.join (ws.take 4) [46] := by rw [← hr, ← hws, List.take_of_length_le (by simp [h4])]; rfl
    have hD : ∀ j, j < 4 → ∀ W, Calls Tryd.prog 39 #[.int .i64 ((b.getD j 0).toNat : Nat)] W fun e w' => e = .returned (.string ⟨(ws.getD j []).toArray⟩) ∧ Below W.heap.size W w' := fun j hj W => by
      have := ref_digits_nat (b.getD j 0).toNat W (by have := (b.getD j 0).toNat_lt; omega)
      rw [dec3_eq (by have := (b.getD j 0).toNat_lt; omega), ← hwj j hj] at this
      exact this
    have hone : ∀ j, j < 4 → IntKind.i64.wrap (((b.getD j 0).toNat : Nat) : Int) = ((b.getD j 0).toNat : Nat) := fun j _ => by
      have := (b.getD j 0).toNat_lt
      rw [IntKind.wrap_i64]; omega
    have hI : ∀ j : Nat, j < 4 → ∀ W, (Instr.index 9 (.string ⟨b.toArray⟩) (.int .i64 (j : Int))).run Tryd.prog W = .ok (.int .u8 ((b.getD j 0).toNat : Nat)) W := fun j hj W => idx_str b j W (by omega)
    have hj1 : Lib.join (ws.take 1) [46] = ws.getD 0 [] := by
      rw [take_snoc ws (by omega)]; exact Lib.join_one _ _
    have hjs : ∀ j, 1 ≤ j → j < 4 → Lib.join (ws.take (j + 1)) [46] = Lib.join (ws.take j) [46] ++ 46 :: ws.getD j [] := fun j h1 h2 => by
      rw [take_snoc ws (by omega)]
      exact join_snoc 46 _ _ (by intro e; have := congrArg List.length e; rw [List.length_take, List.length_nil, hwl] at this; omega)
    have hjl : ∀ j, j ≤ 4 → (Lib.join (ws.take j) [46]).length ≤ 16 := fun j hj => by
      have := join_len_le 46 3 (ws.take j) (fun x hx => by
        obtain ⟨k, hk⟩ := List.mem_iff_getElem?.1 (List.mem_of_mem_take hx)
        have hk2 := (List.getElem?_eq_some_iff.1 hk).1
        have := hw3 k (by omega)
        rw [List.getD_eq_getElem?_getD, hk] at this
        exact this)
      have h2 : (ws.take j).length ≤ 4 := by rw [List.length_take]; omega
      have : (ws.take j).length * (3 + 1) ≤ 4 * 4 := Nat.mul_le_mul h2 (by decide)
      omega
    clear hr hws hwj
    have D0 := Lib.hid (hD 0 (by omega))
    have I0 := hI 0 (by omega)
    have U0 := hone 0 (by omega)
    rw [show ((0 : Nat) : Int) = 0 from rfl] at I0
    rw [← hj1] at D0
    replace hD := Lib.hid hD
    replace hI := Lib.hid hI
    replace hone := Lib.hid hone
    replace hrj := Lib.hid hrj
    replace hjs := Lib.hid hjs
    replace hjl := Lib.hid hjl
    replace hj1 := Lib.hid hj1
    replace hw3 := Lib.hid hw3
    generalize (b.getD 0 0).toNat = c0 at *
    generalize hS1 : Lib.join (ws.take 1) [46] = S1 at *
    replace hS1 := Lib.hid hS1
    go_enter Tryd.func16, Tryd.ntmps16
    go_wp2_with (first
      | (go_at_call 14; (with_reducible refine (P.out _).mono ?_); rintro e w2 ⟨rfl, hb2⟩)
      | (go_at_call 39; (with_reducible refine (D0.out _).mono ?_); rintro e w3 ⟨rfl, hb3⟩))
    have hbA := below_chain hb3 (below_chain hb2 hb0)
    clear hb0 hb2 hb3
    go_loopw [4, 5] (fun s i wr => ∃ j : Nat, 1 ≤ j ∧ j ≤ 4 ∧ i = .int .i64 (j : Nat) ∧ s = .string ⟨(Lib.join (ws.take j) [46]).toArray⟩ ∧ Below w.heap.size w wr) (fun _ i _ => 4 - (intOf i).toNat)
    case atStart => exact ⟨1, by omega, by omega, rfl, by rw [hS1.out], hbA⟩
    case round =>
      obtain ⟨j, hj1, hj, rfl, rfl, hb⟩ := hrel
      by_cases hlt : j < 4
      · have hlti : (j : Int) < 4 := by omega
        have D := Lib.hid (hD.out j hlt)
        have I := hI.out j hlt
        have U := hone.out j hlt
        have hs := hjs.out j hj1 hlt
        have hl := hjl.out j hj
        have hx := hw3.out j hlt
        generalize ws.getD j [] = x at *
        generalize (b.getD j 0).toNat = c at *
        obtain ⟨S, hS⟩ : ∃ S, Lib.join (ws.take j) [46] = S := ⟨_, rfl⟩
        rw [hS] at hs hl ⊢
        have hcat1 : (ByteArray.mk S.toArray) ++ ⟨#[46]⟩ = ⟨(S ++ [46]).toArray⟩ := str_append S [46]
        have hcat2 : (ByteArray.mk (S ++ [46]).toArray) ++ ⟨x.toArray⟩ = ⟨(S ++ [46] ++ x).toArray⟩ := str_append (S ++ [46]) x
        have hss1 : ¬ 9223372036854775807 < S.length + 1 := by omega
        have hss2 : ¬ 9223372036854775807 < S.length + 1 + x.length := by omega
        have hss3 : ¬ 9223372036854775807 < (S ++ [46]).length + x.length := by simp; omega
        have hfin : (ByteArray.mk S.toArray) ++ ⟨#[46]⟩ ++ ⟨x.toArray⟩ = ⟨(Lib.join (ws.take (j + 1)) [46]).toArray⟩ := by
          rw [hcat1, hcat2, hs]; simp
        replace hS := Lib.hid hS
        replace hs := Lib.hid hs
        replace hcat1 := Lib.hid hcat1
        replace hcat2 := Lib.hid hcat2
        replace hfin := Lib.hid hfin
        go_wp2_with (go_at_call 39; (with_reducible refine (D.out _).mono ?_); rintro e w3 ⟨rfl, hb3⟩)
        go_roundw
        case rel => exact ⟨j + 1, by omega, by omega, by go_num, by rw [← hfin.out], below_chain hb3 hb⟩
        case measure => simp [intOf]; omega
      · have hlti : ¬ (j : Int) < 4 := by omega
        obtain rfl : j = 4 := by omega
        rw [← hrj.out]
        go_wp2_with fail
        go_ret
        exact ⟨rfl, hb⟩
  · have e4 : ((b.length : Int) == 4) = false := by rw [beq_eq_false_iff_ne]; omega
    simp only [h4, if_false] at hr
    by_cases h16 : b.length = 16
    · have e16 : ((b.length : Int) == 16) = true := by rw [h16]; rfl
      simp only [h16, if_true] at hr
      obtain ⟨ws, hws⟩ : ∃ ws, (prs b).map hexL = ws := ⟨_, rfl⟩
      obtain ⟨_, hpl, hp2⟩ := flatten_prs 8 b (by omega)
      have hwl : ws.length = 8 := by rw [← hws, List.length_map, hpl]
      have hwj : ∀ j, j < 8 → ws.getD j [] = hexL ((b.drop (2 * j)).take 2) := fun j hj => by
        rw [← hws, List.getD_eq_getElem?_getD, List.getElem?_map, prs_at j b (by omega)]; rfl
      have hw3 : ∀ j, j < 8 → (ws.getD j []).length ≤ 4 := fun j hj => by rw [hwj j hj, hexL_len, List.length_take]; omega
      have hrj : r = Lib.join (ws.take 8) [58] := by rw [← hr, ← hws, List.take_of_length_le (by simp [hpl])]; rfl
      have hD : ∀ j, j < 8 → ∀ W, Calls Tryd.prog 40 #[.string ⟨((b.drop (2 * j)).take 2).toArray⟩] W fun e w' => e = .returned (.string ⟨(ws.getD j []).toArray⟩) ∧ Below W.heap.size W w' := fun j hj W => by
        rw [hwj j hj]
        exact ref_hex _ W (by rw [List.length_take]; omega)
      have hI : ∀ j : Nat, j < 8 → ∀ W, (Instr.slice 9 (.string ⟨b.toArray⟩) (some (.int .i64 ((2 * j : Nat) : Int))) (some (.int .i64 (((2 * j : Nat) : Int) + 2))) none).run Tryd.prog W = .ok (.string ⟨((b.drop (2 * j)).take 2).toArray⟩) W := fun j hj W => by
        have := slice_piece b (2 * j) (2 * j + 2) W (by omega) (by omega)
        rw [show 2 * j + 2 - 2 * j = 2 by omega, show ((2 * j + 2 : Nat) : Int) = ((2 * j : Nat) : Int) + 2 by omega] at this
        exact this
      have I0 : ∀ W, (Instr.slice 9 (.string ⟨b.toArray⟩) none (some (.int .i64 2)) none).run Tryd.prog W = .ok (.string ⟨((b.drop (2 * 0)).take 2).toArray⟩) W := fun W => by
        rw [run_slice_string_to_if W 9 ⟨b.toArray⟩ .i64 2 Tryd.underlying9, if_pos ⟨by omega, by rw [str_size]; omega⟩, show (2 : Int).toNat = 2 from rfl, ByteArray.extract_mk]
      have hj1 : Lib.join (ws.take 1) [58] = ws.getD 0 [] := by
        rw [take_snoc ws (by omega)]; exact Lib.join_one _ _
      have hjs : ∀ j, 1 ≤ j → j < 8 → Lib.join (ws.take (j + 1)) [58] = Lib.join (ws.take j) [58] ++ 58 :: ws.getD j [] := fun j h1 h2 => by
        rw [take_snoc ws (by omega)]
        exact join_snoc 58 _ _ (by intro e; have := congrArg List.length e; rw [List.length_take, List.length_nil, hwl] at this; omega)
      have hjl : ∀ j, j ≤ 8 → (Lib.join (ws.take j) [58]).length ≤ 40 := fun j hj => by
        have := join_len_le 58 4 (ws.take j) (fun x hx => by
          obtain ⟨k, hk⟩ := List.mem_iff_getElem?.1 (List.mem_of_mem_take hx)
          have hk2 := (List.getElem?_eq_some_iff.1 hk).1
          have := hw3 k (by omega)
          rw [List.getD_eq_getElem?_getD, hk] at this
          exact this)
        have h2 : (ws.take j).length ≤ 8 := by rw [List.length_take]; omega
        have : (ws.take j).length * (4 + 1) ≤ 8 * 5 := Nat.mul_le_mul h2 (by decide)
        omega
      clear hr hws hwj hp2
      have D0 := Lib.hid (hD 0 (by omega))
      rw [← hj1] at D0
      replace hD := Lib.hid hD
      replace hI := Lib.hid hI
      replace hrj := Lib.hid hrj
      replace hjs := Lib.hid hjs
      replace hjl := Lib.hid hjl
      replace hj1 := Lib.hid hj1
      replace hw3 := Lib.hid hw3
      generalize (b.drop (2 * 0)).take 2 = c0 at *
      generalize hS1 : Lib.join (ws.take 1) [58] = S1 at *
      replace hS1 := Lib.hid hS1
      go_enter Tryd.func16, Tryd.ntmps16
      go_wp2_with (first
        | (go_at_call 14; (with_reducible refine (P.out _).mono ?_); rintro e w2 ⟨rfl, hb2⟩)
        | (go_at_call 40; (with_reducible refine (D0.out _).mono ?_); rintro e w3 ⟨rfl, hb3⟩))
      have hbA := below_chain hb3 (below_chain hb2 hb0)
      clear hb0 hb2 hb3 I0
      go_loopw [4, 6] (fun s i wr => ∃ j : Nat, 1 ≤ j ∧ j ≤ 8 ∧ i = .int .i64 ((2 * j : Nat) : Int) ∧ s = .string ⟨(Lib.join (ws.take j) [58]).toArray⟩ ∧ Below w.heap.size w wr) (fun _ i _ => 16 - (intOf i).toNat)
      case atStart => exact ⟨1, by omega, by omega, rfl, by rw [hS1.out], hbA⟩
      case round =>
        obtain ⟨j, hj1, hj, rfl, rfl, hb⟩ := hrel
        obtain ⟨ii, hii⟩ : ∃ ii, ((2 * j : Nat) : Int) = ii := ⟨_, rfl⟩
        by_cases hlt : j < 8
        · have D := Lib.hid (hD.out j hlt)
          have I := hI.out j hlt
          have hs := hjs.out j hj1 hlt
          have hl := hjl.out j hj
          have hx := hw3.out j hlt
          rw [hii] at I ⊢
          have hlti : ii < 16 := by omega
          have hx0 : 0 ≤ ii := by omega
          generalize ws.getD j [] = x at *
          generalize (b.drop (2 * j)).take 2 = c at *
          obtain ⟨S, hS⟩ : ∃ S, Lib.join (ws.take j) [58] = S := ⟨_, rfl⟩
          rw [hS] at hs hl ⊢
          have hcat1 : (ByteArray.mk S.toArray) ++ ⟨#[58]⟩ = ⟨(S ++ [58]).toArray⟩ := str_append S [58]
          have hcat2 : (ByteArray.mk (S ++ [58]).toArray) ++ ⟨x.toArray⟩ = ⟨(S ++ [58] ++ x).toArray⟩ := str_append (S ++ [58]) x
          have hss1 : ¬ 9223372036854775807 < S.length + 1 := by omega
          have hss2 : ¬ 9223372036854775807 < S.length + 1 + x.length := by omega
          have hfin : (ByteArray.mk S.toArray) ++ ⟨#[58]⟩ ++ ⟨x.toArray⟩ = ⟨(Lib.join (ws.take (j + 1)) [58]).toArray⟩ := by
            rw [hcat1, hcat2, hs]; simp
          replace hS := Lib.hid hS
          replace hs := Lib.hid hs
          replace hcat1 := Lib.hid hcat1
          replace hcat2 := Lib.hid hcat2
          replace hfin := Lib.hid hfin
          replace hii := Lib.hid hii
          go_wp2_with (go_at_call 40; (with_reducible refine (D.out _).mono ?_); rintro e w3 ⟨rfl, hb3⟩)
          go_roundw
          case rel => exact ⟨j + 1, by omega, by omega, by rw [← hii.out]; go_num, by rw [← hfin.out], below_chain hb3 hb⟩
          case measure => simp [intOf]; omega
        · obtain rfl : j = 8 := by omega
          have hlti : ¬ ii < 16 := by omega
          rw [hii]
          rw [← hrj.out]
          replace hii := Lib.hid hii
          go_wp2_with fail
          go_ret
          exact ⟨rfl, hb⟩
    · have e16 : ((b.length : Int) == 16) = false := by rw [beq_eq_false_iff_ne]; omega
      simp only [h16, if_false] at hr
      subst hr
      go_enter Tryd.func16, Tryd.ntmps16
      go_wp2_with (go_at_call 14; (with_reducible refine (P.out _).mono ?_); rintro e w2 ⟨rfl, hb2⟩)
      go_ret
      exact ⟨rfl, below_chain hb2 hb0⟩
end Go.Proofs.YtodbgjnccngljaaDoor
