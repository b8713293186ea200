/- addr: Text. -/
import Derived.Test.YtodbgjnccngljaaDoorAdJ
namespace Go.Proofs.YtodbgjnccngljaaDoor
open Go Go.RowKit Go.Deep

/-- A row of strings of which the first j are laid. -/
def strF (ws : List (List UInt8)) (j : Nat) : Nat → Value := fun i => if i < j then .string ⟨(ws.getD i []).toArray⟩ else .string ⟨#[]⟩
theorem strF_blk {w : World} {g n t : Nat} {ws : List (List UInt8)} (h : w.rowIs g t n (strF ws n)) (hn : ws.length = n) : Blk w g t (strs ws) := by
  obtain ⟨c, h1, h2, h3⟩ := h
  have : c = strs ws := by
    apply Array.ext
    · simp [h2, hn]
    · intro i hi1 hi2
      have hin : i < n := by omega
      have := h3 i hin
      rw [Array.getElem?_eq_getElem hi1] at this
      rw [Option.some.inj this]
      unfold strF
      rw [if_pos hin, List.getD_eq_getElem?_getD, List.getElem?_eq_getElem (by omega)]
      simp
  rw [← this]
  exact h1

theorem strF_next {w : World} {g n t j : Nat} {ws : List (List UInt8)} (h : w.rowIs g t n (strF ws j)) : (w.setCell ⟨g, j, none⟩ (.string ⟨(ws.getD j []).toArray⟩)).rowIs g t n (strF ws (j + 1)) :=
  (h.set j _).congr fun i hi => by
    by_cases e : i = j
    · rw [if_pos e, e]; unfold strF; rw [if_pos (by omega)]
    · rw [if_neg e]
      unfold strF
      by_cases e2 : i < j
      · rw [if_pos e2, if_pos (by omega)]
      · rw [if_neg e2, if_neg (by omega)]
theorem strF_old {w : World} {g n t j : Nat} {ws : List (List UInt8)} (h : w.rowIs g t n (strF ws j)) (hj : j < n) : w.cell? ⟨g, j, none⟩ = some (.string ⟨#[]⟩) := by
  rw [h.cell hj]; unfold strF; rw [if_neg (by omega)]

theorem join_len_le (c : UInt8) (m : Nat) : ∀ ws : List (List UInt8), (∀ x ∈ ws, x.length ≤ m) → (Lib.join ws [c]).length ≤ ws.length * (m + 1)
  | [], _ => by simp [Lib.join_nil]
  | [x], h => by rw [Lib.join_one]; have := h x (by simp); simp; omega
  | x :: y :: t, h => by
    have ih := join_len_le c m (y :: t) (fun z hz => h z (List.mem_cons_of_mem _ hz))
    have := h x (by simp)
    rw [join_cons2, List.length_append, List.length_cons, List.length_cons, Nat.succ_mul]
    omega
theorem dec3_len (n : Nat) : (dec3 n).length ≤ 3 := by
  unfold dec3
  split
  · simp
  · split <;> simp

set_option maxRecDepth 100000 in
set_option maxHeartbeats 8000000 in
theorem addr_text (v : Bool) (hi lo : Nat) (w : World) (hw : Std w) :
    Calls Tryd.prog 15 #[.agg #[.bool v, .int .u64 (hi : Nat), .int .u64 (lo : Nat)]] w fun e w' => e = .returned (.string ⟨(adrTxt v hi lo).toArray⟩) ∧ Below w.heap.size w w' := by
  have hb0 : Below w.heap.size w (w.alloc (.cells #[.bool v, .int .u64 (hi : Nat), .int .u64 (lo : Nat)] 24)) := (Below.refl _ _).alloc (Nat.le_refl _) _
  have P := Lib.hid (addr_put v hi lo)
  obtain ⟨r, hr⟩ : ∃ r, adrTxt v hi lo = r := ⟨_, rfl⟩
  rw [hr]
  unfold adrTxt at hr
  have hbl := adrPut_len v hi lo
  obtain ⟨b, hb⟩ : ∃ b, adrPut v hi lo = b := ⟨_, rfl⟩
  rw [hb] at P hr hbl
  have hsb : (ByteArray.mk b.toArray).size = b.length := rfl
  clear hb
  by_cases h4 : b.length = 4
  · have e4 : ((b.length : Int) == 4) = true := by rw [h4]; rfl
    simp only [h4, if_true] at hr
    go_enter Tryd.func15, Tryd.ntmps15
    go_upto_region 5 with (go_at_call 13; (with_reducible refine (P.out _).mono ?_); rintro e w2 ⟨rfl, hb2⟩)
    have r0 : (w2.alloc (.cells #[.string ⟨#[]⟩, .string ⟨#[]⟩, .string ⟨#[]⟩, .string ⟨#[]⟩] 53)).rowIs w2.heap.size 53 4 (strF (b.map fun c => dec3 c.toNat) 0) :=
      World.rowIs_alloc w2 _ _ _ (fun i hi => by
        have hi4 : i < 4 := hi
        have : i = 0 ∨ i = 1 ∨ i = 2 ∨ i = 3 := by omega
        rcases this with rfl | rfl | rfl | rfl <;> rfl)
    have hbA := below_alloc (below_chain hb2 hb0) (.cells #[.string ⟨#[]⟩, .string ⟨#[]⟩, .string ⟨#[]⟩, .string ⟨#[]⟩] 53)
    have hg : w.heap.size ≤ w2.heap.size := Nat.le_trans hb0.size hb2.size
    have hsA : (w2.alloc (.cells #[.string ⟨#[]⟩, .string ⟨#[]⟩, .string ⟨#[]⟩, .string ⟨#[]⟩] 53)).heap.size = w2.heap.size + 1 := by simp
    generalize w2.alloc (.cells #[.string ⟨#[]⟩, .string ⟨#[]⟩, .string ⟨#[]⟩, .string ⟨#[]⟩] 53) = wA at *
    clear hb2 hb0
    generalize w2.heap.size = g at *
    have cv := Lib.run_convert_string_bytes (P := Tryd.prog) wA 9 54 5 ⟨b.toArray⟩ Tryd.underlying9 Tryd.underlying54 Tryd.underlying5
    have hbW := bytesWorld_below wA 5 ⟨b.toArray⟩
    have hcell := Lib.bytesWorld_cell wA 5 ⟨b.toArray⟩
    have hsz := Lib.bytesWorld_size wA 5 ⟨b.toArray⟩
    rw [str_size] at hcell cv
    generalize Lib.bytesWorld wA 5 ⟨b.toArray⟩ = W at *
    have rW := rowIs_call r0 hbW
    have hbB := below_chain hbW hbA
    clear r0 hbW hbA
    rw [hsA] at cv hcell hsz
    obtain ⟨ws, hws⟩ : ∃ ws, b.map (fun c => dec3 c.toNat) = ws := ⟨_, rfl⟩
    have hwl : ws.length = 4 := by rw [← hws, List.length_map, h4]
    have hwj : ∀ j, j < 4 → ws.getD j [] = dec3 (b.getD j 0).toNat := fun j hj => by
      rw [← hws, List.getD_eq_getElem?_getD, List.getElem?_map, List.getD_eq_getElem?_getD, List.getElem?_eq_getElem (by omega)]; rfl
    have hrj : r = Lib.join ws [46] := by rw [← hr, ← hws]; rfl
    have hjl : (Lib.join ws [46]).length ≤ 140737488355328 := by
      have := join_len_le 46 3 ws (fun x hx => by rw [← hws] at hx; obtain ⟨c, _, rfl⟩ := List.mem_map.1 hx; exact dec3_len _)
      omega
    replace hjl := Lib.hid hjl
    rw [hws] at rW
    rw [h4] at cv hcell
    clear hr hws
    replace hrj := Lib.hid hrj
    go_wp2_with fail
    clear cv
    go_loopw [18] (fun i wr => ∃ j : Nat, j ≤ 4 ∧ i = .int .i64 (j : Nat) ∧ wr.rowIs g 53 4 (strF ws j) ∧ Chg (· = g) W wr) (fun i _ => 4 - (intOf i).toNat)
    case atStart => exact ⟨0, by omega, rfl, rW, Chg.refl _ _⟩
    case round =>
      obtain ⟨j, hj, rfl, hR, hc⟩ := hrel
      have hbr : Below w.heap.size w wr := hbB.trans (hc.below (fun k hk e => by omega) (Nat.le_trans hbB.size (Nat.le_refl _)))
      have hwr := hw.below hbr
      by_cases hlt : j < 4
      · have hlti : (j : Int) < 4 := by omega
        have c0 : wr.cell? ⟨g + 1, j, none⟩ = some (.int .u8 (b.getD j 0).toNat) := (cell_chg hc (show g + 1 < W.heap.size by omega) (show ¬ (g + 1 = g) by omega)).trans (hcell j hlt)
        have hcl : (b.getD j 0).toNat < 256 := (b.getD j 0).toNat_lt
        have hn := hwj j hlt
        obtain ⟨c, hcd⟩ : ∃ c, (b.getD j 0).toNat = c := ⟨_, rfl⟩
        rw [hcd] at c0 hn hcl
        have I := std_itoa (c : Int) wr hwr (by omega) (by omega)
        have hI : Lib.itoa (c : Int) = Lib.decDigits c := Lib.itoa_nonneg c
        rw [hI, dec3_eq (by omega), ← hn] at I
        replace I := Lib.hid I
        replace hcd := Lib.hid hcd
        replace hn := Lib.hid hn
        have hu : IntKind.i64.wrap (c : Int) = (c : Int) := by rw [IntKind.wrap_i64]; omega
        have hfin : ∀ w3, Below wr.heap.size wr w3 → ((w3.setCell ⟨g, j, none⟩ (.string ⟨(ws.getD j []).toArray⟩)).rowIs g 53 4 (strF ws (j + 1)) ∧ Chg (· = g) W (w3.setCell ⟨g, j, none⟩ (.string ⟨(ws.getD j []).toArray⟩))) := fun w3 hb3 =>
          ⟨strF_next (rowIs_call hR hb3), (hc.trans (Chg.of_below (F := (· = g)) hb3) (fun _ _ h => h)).setCell (p := ⟨g, j, none⟩) (fun _ => rfl) _⟩
        replace hfin := Lib.hid hfin
        replace hR := Lib.hid hR
        generalize ws.getD j [] = t at *
        clear hwj hcell
        go_wp2_with (go_at_call 36; (with_reducible refine I.out.mono ?_); rintro e w3 ⟨rfl, hb3⟩; have d0 := strF_old (rowIs_call hR.out hb3) hlt; have g0 := (rowIs_call hR.out hb3).frozen j)
        obtain ⟨z1, z2⟩ := hfin.out w3 hb3
        replace z1 := Lib.hid z1
        go_roundw
        case rel => exact ⟨j + 1, by omega, by go_num, z1.out, z2⟩
        case measure => simp [intOf]; omega
      · have hlti : ¬ (j : Int) < 4 := by omega
        obtain rfl : j = 4 := by omega
        have hB := strF_blk hR hwl
        have J := std_join ws 46 g _ wr hB hjl.out (by omega)
        rw [hwl, ← hrj.out] at J
        replace J := Lib.hid J
        clear hR hB hwj hcell
        go_wp2_with (go_at_call 37; (with_reducible refine J.out.mono ?_); rintro e w3 ⟨rfl, hb3⟩)
        go_ret
        exact ⟨rfl, below_chain hb3 hbr⟩
  · have e4 : ((b.length : Int) == 4) = false := by rw [beq_eq_false_iff_ne]; omega
    simp only [h4, if_false] at hr
    by_cases h16 : b.length = 16
    · have e16 : ((b.length : Int) == 16) = true := by rw [h16]; rfl
      simp only [h16, if_true] at hr
      go_enter Tryd.func15, Tryd.ntmps15
      go_upto_region 13 with (go_at_call 13; (with_reducible refine (P.out _).mono ?_); rintro e w2 ⟨rfl, hb2⟩)
      have r0 : (w2.alloc (.cells #[.string ⟨#[]⟩, .string ⟨#[]⟩, .string ⟨#[]⟩, .string ⟨#[]⟩, .string ⟨#[]⟩, .string ⟨#[]⟩, .string ⟨#[]⟩, .string ⟨#[]⟩] 57)).rowIs w2.heap.size 57 8 (strF ((prs b).map hexL) 0) :=
        World.rowIs_alloc w2 _ _ _ (fun i hi => by
          have hi4 : i < 8 := hi
          have : i = 0 ∨ i = 1 ∨ i = 2 ∨ i = 3 ∨ i = 4 ∨ i = 5 ∨ i = 6 ∨ i = 7 := by omega
          rcases this with rfl | rfl | rfl | rfl | rfl | rfl | rfl | rfl <;> rfl)
      have hbA := below_alloc (below_chain hb2 hb0) (.cells #[.string ⟨#[]⟩, .string ⟨#[]⟩, .string ⟨#[]⟩, .string ⟨#[]⟩, .string ⟨#[]⟩, .string ⟨#[]⟩, .string ⟨#[]⟩, .string ⟨#[]⟩] 57)
      have hg : w.heap.size ≤ w2.heap.size := Nat.le_trans hb0.size hb2.size
      generalize w2.alloc (.cells #[.string ⟨#[]⟩, .string ⟨#[]⟩, .string ⟨#[]⟩, .string ⟨#[]⟩, .string ⟨#[]⟩, .string ⟨#[]⟩, .string ⟨#[]⟩, .string ⟨#[]⟩] 57) = W at *
      clear hb2 hb0
      generalize w2.heap.size = g at *
      obtain ⟨ws, hws⟩ : ∃ ws, (prs b).map hexL = ws := ⟨_, rfl⟩
      obtain ⟨_, hpl, hp2⟩ := flatten_prs 8 b (by omega)
      have hwl : ws.length = 8 := by rw [← hws, List.length_map, hpl]
      have hwj : ∀ j, j < 8 → ws.getD j [] = hexL ((b.drop (2 * j)).take 2) := fun j hj => by
        rw [← hws, List.getD_eq_getElem?_getD, List.getElem?_map, prs_at j b (by omega)]; rfl
      have hrj : r = Lib.join ws [58] := by rw [← hr, ← hws]; rfl
      have hjl : (Lib.join ws [58]).length ≤ 140737488355328 := by
        have := join_len_le 58 4 ws (fun x hx => by
          rw [← hws] at hx
          obtain ⟨c, hc, rfl⟩ := List.mem_map.1 hx
          rw [hexL_len, hp2 c hc]
          exact Nat.le_refl 4)
        omega
      replace hjl := Lib.hid hjl
      rw [hws] at r0
      clear hr hws hp2
      replace hrj := Lib.hid hrj
      go_wp2_with fail
      go_loopw [33] (fun i wr => ∃ j : Nat, j ≤ 8 ∧ i = .int .i64 (j : Nat) ∧ wr.rowIs g 57 8 (strF ws j) ∧ Chg (· = g) W wr) (fun i _ => 8 - (intOf i).toNat)
      case atStart => exact ⟨0, by omega, rfl, r0, Chg.refl _ _⟩
      case round =>
        obtain ⟨j, hj, rfl, hR, hc⟩ := hrel
        have hbr : Below w.heap.size w wr := hbA.trans (hc.below (fun k hk e => by omega) (Nat.le_trans hbA.size (Nat.le_refl _)))
        by_cases hlt : j < 8
        · have hlti : (j : Int) < 8 := by omega
          have hn := hwj j hlt
          have sl : ∀ W, (Instr.slice 9 (.string ⟨b.toArray⟩) (some (.int .i64 (2 * (j : Int)))) (some (.int .i64 (2 * (j : Int) + 2))) none).run Tryd.prog W = .ok (.string ⟨((b.drop (2 * j)).take 2).toArray⟩) W := fun W => by
            have := slice_piece b (2 * j) (2 * j + 2) W (by omega) (by omega)
            rw [show 2 * j + 2 - 2 * j = 2 by omega, show ((2 * j : Nat) : Int) = 2 * (j : Int) by omega, show ((2 * j + 2 : Nat) : Int) = 2 * (j : Int) + 2 by omega] at this
            exact this
          have I := fun W => oct_hex ((b.drop (2 * j)).take 2) W (by rw [List.length_take]; omega)
          rw [← hn] at I
          generalize (b.drop (2 * j)).take 2 = q at *
          replace I := Lib.hid I
          replace hn := Lib.hid hn
          have hfin : ∀ w3, Below wr.heap.size wr w3 → ((w3.setCell ⟨g, j, none⟩ (.string ⟨(ws.getD j []).toArray⟩)).rowIs g 57 8 (strF ws (j + 1)) ∧ Chg (· = g) W (w3.setCell ⟨g, j, none⟩ (.string ⟨(ws.getD j []).toArray⟩))) := fun w3 hb3 =>
            ⟨strF_next (rowIs_call hR hb3), (hc.trans (Chg.of_below (F := (· = g)) hb3) (fun _ _ h => h)).setCell (p := ⟨g, j, none⟩) (fun _ => rfl) _⟩
          replace hfin := Lib.hid hfin
          replace hR := Lib.hid hR
          generalize ws.getD j [] = t at *
          clear hwj
          go_wp2_with (go_at_call 38; (with_reducible refine (I.out _).mono ?_); rintro e w3 ⟨rfl, hb3⟩; have d0 := strF_old (rowIs_call hR.out hb3) hlt; have g0 := (rowIs_call hR.out hb3).frozen j)
          obtain ⟨z1, z2⟩ := hfin.out w3 hb3
          replace z1 := Lib.hid z1
          go_roundw
          case rel => exact ⟨j + 1, by omega, by go_num, z1.out, z2⟩
          case measure => simp [intOf]; omega
        · have hlti : ¬ (j : Int) < 8 := by omega
          obtain rfl : j = 8 := by omega
          have hB := strF_blk hR hwl
          have J := std_join ws 58 g _ wr hB hjl.out (by omega)
          rw [hwl, ← hrj.out] at J
          replace J := Lib.hid J
          clear hR hB hwj
          go_wp2_with (go_at_call 37; (with_reducible refine J.out.mono ?_); rintro e w3 ⟨rfl, hb3⟩)
          go_ret
          exact ⟨rfl, below_chain hb3 hbr⟩
    · have e16 : ((b.length : Int) == 16) = false := by rw [beq_eq_false_iff_ne]; omega
      simp only [h16, if_false] at hr
      subst hr
      go_enter Tryd.func15, Tryd.ntmps15
      go_wp2_with (go_at_call 13; (with_reducible refine (P.out _).mono ?_); rintro e w2 ⟨rfl, hb2⟩)
      go_ret
      exact ⟨rfl, below_chain hb2 hb0⟩
end Go.Proofs.YtodbgjnccngljaaDoor
