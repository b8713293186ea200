/- The document's Parse at more kinds. The document's Parse. script.Text. script.Read. -/
import Derived.Test.YtodbgjnccngljaaGreatDoorJ30
import Derived.Test.YtodbgjnccngljaaGreatDoorJ26
import Derived.Test.YtodbgjnccngljaaGreatDoorJ31
import Derived.Test.YtodbgjnccngljaaGreatDoorJ32
import Derived.Test.YtodbgjnccngljaaGreatDoorJ33
import Derived.Test.YtodbgjnccngljaaGreatDoorJ34
import Derived.Test.YtodbgjnccngljaaGreatDoorJ28
namespace Go.Proofs.YtodbgjnccngljaaGreatDoor
open Go Go.RowKit Go.Deep
set_option maxRecDepth 100000 in
set_option maxHeartbeats 64000000 in
theorem rparse7 (l : List UInt8) (w : World) (hL : l.length ≤ 9999) (ws : List (List UInt8)) (hp : parts 32 l = ws) (hk : kgo (wAt ws 0) 12 = 7) (a1 a2 a3 al : List UInt8) (h1 : wAt ws 1 = a1) (hh2 : wAt ws 2 = a2) (h3 : wAt ws 3 = a3) (hl4 : wLast ws = al)
  (o1 o2 : Int) (s : List UInt8) (is : Bool) (x2 x3 : Nat) (y : Bool × Nat × Nat) (ho1 : valL a1 = o1) (ho2 : valL a2 = o2) (hs : (unhexL al).getD [] = s) (his : (al == [111, 110]) = is) (_hx2 : wideL a2 = x2) (_hx3 : wideL a3 = x3) (_hy : adrOf a2 = y)
  (hin : inL (⟨7, 0, 0, 0, [], 0, 0, false, false, 0, 0, o1, o2⟩ : ActL)) (hgs : ((⟨7, 0, 0, 0, [], 0, 0, false, false, 0, 0, o1, o2⟩ : ActL)).s.length ≤ 1000000) (g1 : a1.length ≤ 10000) (g2 : a2.length ≤ 10000) (_g3 : a3.length ≤ 10000) (g4 : al.length ≤ 10000) :
  Calls Tryz.prog 10 #[.string ⟨l.toArray⟩] w fun e w' => e = .returned (parseV (if rightL (⟨7, 0, 0, 0, [], 0, 0, false, false, 0, 0, o1, o2⟩ : ActL) = true ∧ lineL (⟨7, 0, 0, 0, [], 0, 0, false, false, 0, 0, o1, o2⟩ : ActL) = l then some (⟨7, 0, 0, 0, [], 0, 0, false, false, 0, 0, o1, o2⟩ : ActL) else none)) ∧ Below w.heap.size w w' := by
 obtain ⟨R, hR⟩ : ∃ R, parseV (if rightL (⟨7, 0, 0, 0, [], 0, 0, false, false, 0, 0, o1, o2⟩ : ActL) = true ∧ lineL (⟨7, 0, 0, 0, [], 0, 0, false, false, 0, 0, o1, o2⟩ : ActL) = l then some (⟨7, 0, 0, 0, [], 0, 0, false, false, 0, 0, o1, o2⟩ : ActL) else none) = R := ⟨_, rfl⟩
 rw [hR]
 replace hR := Lib.hid hR
 obtain ⟨w1, hw1⟩ : ∃ w1, w1 = w.alloc (.cells #[.int .i64 0, .int .i64 0, .int .i64 0, .int .i64 0, .string ⟨#[]⟩, .int .u64 0, .int .u64 0, .bool false, .bool false, .int .u64 0, .int .u64 0, .int .i64 0, .int .i64 0] 28) := ⟨_, rfl⟩
 have hb1 : Below w.heap.size w w1 := hw1 ▸ below_alloc (Below.refl _ _) _
 have h20 : Blk w1 w.heap.size 28 #[.int .i64 0, .int .i64 0, .int .i64 0, .int .i64 0, .string ⟨#[]⟩, .int .u64 0, .int .u64 0, .bool false, .bool false, .int .u64 0, .int .u64 0, .int .i64 0, .int .i64 0] := by rw [hw1]; exact Blk.new w 28 _
 have PT := ref_parts l 32 w1 (by omega)
 rw [hp] at PT
 replace PT := Lib.hid (show Calls Tryz.prog 31 #[.string ⟨l.toArray⟩, .int .u8 32] w1 _ from PT)
 have hws0 : 0 < ws.length := by rw [← hp]; obtain ⟨p, ps, e⟩ := parts_cons 32 l; rw [e]; simp
 have hwl : ws.length ≤ 10000 := by rw [← hp]; have := (parts_len 32 l).1; omega
 have hne : ws ≠ [] := by intro e; rw [e] at hws0; simp at hws0
 have VA := Lib.hid rs_value
 have WD := Lib.hid rs_words
 have V1 := Lib.hid fun W => (show Calls Tryz.prog 32 #[.string ⟨a1.toArray⟩] W fun e w' => e = .returned (.int .i64 o1) ∧ Below W.heap.size W w' from by rw [← ho1]; exact rs_value a1 W (by omega))
 have V2 := Lib.hid fun W => (show Calls Tryz.prog 32 #[.string ⟨a2.toArray⟩] W fun e w' => e = .returned (.int .i64 o2) ∧ Below W.heap.size W w' from by rw [← ho2]; exact rs_value a2 W (by omega))
 obtain ⟨q, hq⟩ : ∃ q, (unhexL al).isSome = q := ⟨_, rfl⟩
 have UN := Lib.hid fun W => (show Calls Tryz.prog 34 #[.string ⟨al.toArray⟩] W fun e w' => e = .returned (.tuple #[.string ⟨s.toArray⟩, .bool q]) ∧ Below W.heap.size W w' from by
  have h := ref_unhex al W (by omega)
  have e : unhexV al = .tuple #[.string ⟨s.toArray⟩, .bool q] := by
   rw [← hs, ← hq]
   unfold unhexV
   cases unhexL al <;> rfl
  rw [e] at h
  exact h)
 obtain ⟨w0, hw0⟩ : ∃ w0, wAt ws 0 = w0 := ⟨_, rfl⟩
 rw [hw0] at hk
 clear hp hL g1 g2 _g3 g4 ho1 ho2 hs _hx2 _hx3 _hy hq
 replace hk := Lib.hid hk
 replace hb1 := Lib.hid hb1
 replace h20 := Lib.hid h20
 replace hne := Lib.hid hne
 replace hin := Lib.hid hin
 replace hgs := Lib.hid hgs
 go_enter Tryz.func10, Tryz.ntmps10
 go_upto_region 1 with fail
 rw [← hw1]
 clear hw1
 go_upto_region 2 with (go_at_call 31; (refine PT.out.mono ?_); rintro e w2 ⟨A, ck, rfl, hO2, hb2⟩)
 have hbw2 := Lib.hid (below_chain hb2 hb1.out)
 have h2 := Lib.hid (Blk.call h20.out hb2)
 obtain ⟨g, rfl, -⟩ := own_form hO2 hne.out
 go_upto_region 3 with fail
 have K3 : Blk (w2.alloc (.cells #[.int .i64 (-1), .int .i64 0, .int .i64 0, .int .i64 0, .string ⟨#[]⟩, .int .u64 0, .int .u64 0, .bool false, .bool false, .int .u64 0, .int .u64 0, .int .i64 0, .int .i64 0] 28)) w2.heap.size 28 (actCs (zeroL (-1))) := Blk.new w2 28 _
 have hb3 : Below w2.heap.size w2 (w2.alloc (.cells #[.int .i64 (-1), .int .i64 0, .int .i64 0, .int .i64 0, .string ⟨#[]⟩, .int .u64 0, .int .u64 0, .bool false, .bool false, .int .u64 0, .int .u64 0, .int .i64 0, .int .i64 0] 28)) := below_alloc (Below.refl _ _) _
 generalize w2.alloc (.cells #[.int .i64 (-1), .int .i64 0, .int .i64 0, .int .i64 0, .string ⟨#[]⟩, .int .u64 0, .int .u64 0, .bool false, .bool false, .int .u64 0, .int .u64 0, .int .i64 0, .int .i64 0] 28) = w3 at *
 obtain ⟨g5, hg5⟩ : ∃ g5, w2.heap.size = g5 := ⟨_, rfl⟩
 rw [hg5] at K3
 have hgb : w2.heap.size ≤ g5 := by omega
 rw [hg5]
 replace hg5 := Lib.hid hg5
 replace hb3 := Lib.hid hb3
 replace K3 := Lib.hid K3
 replace hO2 := Lib.hid hO2
 go_wp2_with fail
 go_loopw [6] (fun i wr => ∃ j : Nat, j ≤ 12 ∧ i = .int .i64 (j : Nat) ∧ Blk wr g5 28 (actCs (zeroL (kgo w0 j))) ∧ Below w2.heap.size w2 wr) (fun i _ => 12 - (intOf i).toNat)
 case atStart => exact ⟨0, by omega, rfl, K3.out, hb3.out⟩
 case round =>
  obtain ⟨j, hj, rfl, hBj, hb⟩ := hrel
  by_cases hlt : j < 12
  ·
   have hlti : (j : Int) < 12 := by omega
   have hj0 : (0 : Int) ≤ (j : Int) := by omega
   have hw0i : (0 : Int) < (ws.length : Int) := by omega
   have hC := Lib.hid fun W (h : Below wr.heap.size wr W) => (show W.cell? ⟨g, 0, none⟩ = some (.string ⟨w0.toArray⟩) from by
    have := own_first ((OwnA.call hO2.out hb).call h) hws0
    rw [← hw0]; exact this)
   have hkg : kgo w0 (j + 1) = if wordsL.getD j [] = w0 then (j : Int) else kgo w0 j := rfl
   obtain ⟨wd, hwd⟩ : ∃ wd, wordsL.getD j [] = wd := ⟨_, rfl⟩
   rw [hwd] at hkg
   replace hwd := Lib.hid hwd
   have hbD := (Below.refl wr.heap.size wr).drew
   go_wp2_with fail
   refine wp_region_held_drew (S := fun W => Below wr.heap.size wr W ∧ W.cell? ⟨g, 0, none⟩ = some (.string ⟨w0.toArray⟩)) (by kernel_rfl) ⟨hbD, hC.out _ hbD⟩ (fun hHeld => ?_)
   generalize wr.drew = wd0 at *
   refine' tk 1 rfl rfl ?_ ?_; rotate_left; · ((intro w hSw; (try dsimp only at hSw); go_simp) <;> with_reducible rfl); try go_frame
   refine' tk 4 rfl rfl ?_ ?_; rotate_left; · ((intro w hSw; (try dsimp only at hSw); go_simp) <;> with_reducible rfl); try go_frame
   refine' tk 5 rfl rfl ?_ ?_; rotate_left; · ((intro w hSw; (try dsimp only at hSw); go_simp) <;> with_reducible rfl); try go_frame
   refine' tk 6 rfl rfl ?_ ?_; rotate_left; · ((intro w hSw; (try dsimp only at hSw); go_simp) <;> with_reducible rfl); try go_frame
   refine wpAnyH_ready (rs := [0]) (by kernel_rfl) (by simp) ?_; refine consH rfl (fun K hK => ?_) AllReadyH.nil
   go_simp
   (go_at_call 23; (with_reducible refine (WD.out _).mono ?_))
   rintro e w4 ⟨rfl, hB4, hb4⟩
   have hbS4 := below_chain hb4 hHeld.1
   have cW : w4.cell? ⟨wd0.heap.size, j, none⟩ = some (.string ⟨wd.toArray⟩) := by have hc := blk_str hB4 (j := j) (by exact hlt); rw [hwd.out] at hc; exact hc
   refine hK.out _ _ ⟨hbS4, hC.out _ hbS4⟩ (fun hHeld4 => ?_)
   clear hK K
   try go_frame
   refine' tk 2 rfl rfl ?_ ?_; rotate_left; · ((intro w hSw; (try dsimp only at hSw); go_simp) <;> with_reducible rfl); try go_frame
   refine wpAnyH_ready (rs := [3]) (by kernel_rfl) (by simp) ?_; refine consH rfl (fun K hK => ?_) AllReadyH.nil
   go_simp
   refine hK.out _ _ hHeld4 (fun hHeld5 => ?_)
   clear hK K
   try go_frame
   have hB5 := Blk.call hBj hHeld5.1
   have hb5 := below_chain hHeld5.1 hb
   have c0 : w4.cell? ⟨g5, 0, none⟩ = some (.int .i64 (kgo w0 j)) := hB5.cell 0
   have f0 : w4.frozen? ⟨g5, 0, none⟩ = false := hB5.frozen 0
   generalize kgo w0 j = kj at *
   by_cases hyx : wd = w0
   ·
    subst hyx
    have e1 : (wd == wd) = true := by simp
    rw [if_pos rfl] at hkg
    have hBn : Blk (w4.setCell ⟨g5, 0, none⟩ (.int .i64 (j : Nat))) g5 28 (actCs (zeroL (kgo wd (j + 1)))) := by rw [hkg]; exact Blk.setAt hB5 0 (.int .i64 (j : Nat))
    have hbn : Below w2.heap.size w2 (w4.setCell ⟨g5, 0, none⟩ (.int .i64 (j : Nat))) := Below.setCell hb5 hgb _
    replace hBn := Lib.hid hBn
    replace hbn := Lib.hid hbn
    clear hkg
    refine' tk 7 rfl rfl ?_ ?_; rotate_left; · ((intro w hSw; (try dsimp only at hSw); go_simp) <;> with_reducible rfl); try go_frame
    refine wpAnyH_done (by kernel_rfl) ?_ _
    go_wp2_with fail
    go_roundw
    case rel => exact ⟨j + 1, by omega, by go_num, hBn.out, hbn.out⟩
    case measure => simp [intOf]; omega
   ·
    have e1 : (wd == w0) = false := by simpa using hyx
    rw [if_neg hyx] at hkg
    have hBn : Blk w4 g5 28 (actCs (zeroL (kgo w0 (j + 1)))) := by rw [hkg]; exact hB5
    replace hBn := Lib.hid hBn
    clear hkg
    refine' tk 7 rfl rfl ?_ ?_; rotate_left; · ((intro w hSw; (try dsimp only at hSw); go_simp) <;> with_reducible rfl); try go_frame
    refine wpAnyH_done (by kernel_rfl) ?_ _
    go_wp2_with fail
    go_roundw
    case rel => exact ⟨j + 1, by omega, by go_num, hBn.out, hb5⟩
    case measure => simp [intOf]; omega
  ·
   have hlti : ¬ (j : Int) < 12 := by omega
   obtain rfl : j = 12 := by omega
   rw [hk.out] at hBj
   have hOr := OwnA.call hO2.out hb
   have W1 := Lib.hid fun W (h : Below wr.heap.size wr W) => (show Calls Tryz.prog 33 #[.slice (some ⟨g, 0, none⟩) ws.length ck, .int .i64 1] W fun e w' => e = .returned (.string ⟨a1.toArray⟩) ∧ W = w' from by rw [← h1]; exact rs_word _ _ ws 1 _ W (OwnA.call hOr h))
   have W2 := Lib.hid fun W (h : Below wr.heap.size wr W) => (show Calls Tryz.prog 33 #[.slice (some ⟨g, 0, none⟩) ws.length ck, .int .i64 2] W fun e w' => e = .returned (.string ⟨a2.toArray⟩) ∧ W = w' from by rw [← hh2]; exact rs_word _ _ ws 2 _ W (OwnA.call hOr h))
   have W3 := Lib.hid fun W (h : Below wr.heap.size wr W) => (show Calls Tryz.prog 33 #[.slice (some ⟨g, 0, none⟩) ws.length ck, .int .i64 3] W fun e w' => e = .returned (.string ⟨a3.toArray⟩) ∧ W = w' from by rw [← h3]; exact rs_word _ _ ws 3 _ W (OwnA.call hOr h))
   have WL := Lib.hid fun W (h : Below wr.heap.size wr W) => (show Calls Tryz.prog 33 #[.slice (some ⟨g, 0, none⟩) ws.length ck, .int .i64 ((ws.length : Int) - 1)] W fun e w' => e = .returned (.string ⟨al.toArray⟩) ∧ W = w' from by
    rw [← hl4, show ((ws.length : Int) - 1) = ((ws.length - 1 : Nat) : Int) by omega]
    exact rs_word _ _ ws (ws.length - 1) _ W (OwnA.call hOr h))
   have hwi : IntKind.i64.wrap ((ws.length : Int) - 1) = (ws.length : Int) - 1 := by rw [IntKind.wrap_i64]; omega
   have hw64 : wrap64 ((ws.length : Int) - 1) = (ws.length : Int) - 1 := by unfold wrap64; omega
   have hbR : Below wr.heap.size wr wr := Below.refl _ _
   replace hb := Lib.hid hb
   replace hBj := Lib.hid (show Blk wr g5 28 #[.int .i64 7, .int .i64 0, .int .i64 0, .int .i64 0, .string ⟨#[]⟩, .int .u64 0, .int .u64 0, .bool false, .bool false, .int .u64 0, .int .u64 0, .int .i64 0, .int .i64 0] from hBj)
   replace hws0 := Lib.hid hws0
   replace hwl := Lib.hid hwl
   clear hO2 hOr K3 hb3 hj WD VA PT
   go_upto_region 11 with (first
    | (go_at_call 33; (with_reducible refine (W1.out _ (by assumption)).mono ?_); rintro e w5 ⟨rfl, rfl⟩)
    | (go_at_call 33; (with_reducible refine (W2.out _ (by assumption)).mono ?_); rintro e w5 ⟨rfl, rfl⟩)
    | (go_at_call 33; (with_reducible refine (WL.out _ (by assumption)).mono ?_); rintro e w5 ⟨rfl, rfl⟩)
    | (go_at_call 32; (with_reducible refine (V1.out _).mono ?_); rintro e w6 ⟨rfl, hb6⟩; have hb6r : Below wr.heap.size wr w6 := below_chain hb6 hbR)
    | (go_at_call 32; (with_reducible refine (V2.out _).mono ?_); rintro e w7 ⟨rfl, hb7⟩; have hb7r : Below wr.heap.size wr w7 := below_chain hb7 hb6r)
    | (go_at_call 34; (with_reducible refine (UN.out _).mono ?_); rintro e w8 ⟨rfl, hb8⟩; have hb8r : Below wr.heap.size wr w8 := below_chain hb8 hb7r))
   have hB8 := Blk.call hBj.out hb8r
   have k0 : w8.cell? ⟨g5, 0, none⟩ = some (.int .i64 7) := hB8.cell 0
   clear V1 V2 UN W1 WL hb6 hb7 hb8 hb6r hb7r
   have sc11 : w8.cell? ⟨g5, 11, none⟩ = some (.int .i64 0) := Blk.cell hB8 11
   have sf11 : w8.frozen? ⟨g5, 11, none⟩ = false := Blk.frozen hB8 11
   have sc12 : w8.cell? ⟨g5, 12, none⟩ = some (.int .i64 0) := Blk.cell hB8 12
   have sf12 : w8.frozen? ⟨g5, 12, none⟩ = false := Blk.frozen hB8 12
   go_upto_region 42 with fail
   have B1 : Blk (w8.setCell ⟨g5, 11, none⟩ (.int .i64 o1)) g5 28 #[.int .i64 7, .int .i64 0, .int .i64 0, .int .i64 0, .string ⟨#[]⟩, .int .u64 0, .int .u64 0, .bool false, .bool false, .int .u64 0, .int .u64 0, .int .i64 o1, .int .i64 0] := Blk.setAt hB8 11 (.int .i64 o1)
   have C1 : Chg (fun k => k = g5) w8 (w8.setCell ⟨g5, 11, none⟩ (.int .i64 o1)) := (Chg.refl (fun k => k = g5) w8).setCell (p := ⟨g5, 11, none⟩) (fun _ => rfl) _
   have B2 : Blk ((w8.setCell ⟨g5, 11, none⟩ (.int .i64 o1)).setCell ⟨g5, 12, none⟩ (.int .i64 o2)) g5 28 #[.int .i64 7, .int .i64 0, .int .i64 0, .int .i64 0, .string ⟨#[]⟩, .int .u64 0, .int .u64 0, .bool false, .bool false, .int .u64 0, .int .u64 0, .int .i64 o1, .int .i64 o2] := Blk.setAt B1 12 (.int .i64 o2)
   have C2 : Chg (fun k => k = g5) w8 ((w8.setCell ⟨g5, 11, none⟩ (.int .i64 o1)).setCell ⟨g5, 12, none⟩ (.int .i64 o2)) := C1.setCell (p := ⟨g5, 12, none⟩) (fun _ => rfl) _
   have hb9 : Below w2.heap.size w2 ((w8.setCell ⟨g5, 11, none⟩ (.int .i64 o1)).setCell ⟨g5, 12, none⟩ (.int .i64 o2)) := (below_chain hb8r hb.out).trans (C2.below (fun b hb h => by omega) (below_chain hb8r hb.out).size)
   clear sc11 sf11 sc12 sf12
   generalize (w8.setCell ⟨g5, 11, none⟩ (.int .i64 o1)).setCell ⟨g5, 12, none⟩ (.int .i64 o2) = w9 at *
   have LN0 := rs_line (⟨7, 0, 0, 0, [], 0, 0, false, false, 0, 0, o1, o2⟩ : ActL) w9 hin.out hgs.out
   have e5 : g5 < w9.heap.size := Blk.lt B2
   replace e5 := Lib.hid e5
   cases hr : rightL (⟨7, 0, 0, 0, [], 0, 0, false, false, 0, 0, o1, o2⟩ : ActL) with
   | false =>
    rw [hr] at LN0
    have hRv : R = .tuple #[.agg #[.int .i64 0, .int .i64 0, .int .i64 0, .int .i64 0, .string ⟨#[]⟩, .int .u64 0, .int .u64 0, .bool false, .bool false, .int .u64 0, .int .u64 0, .int .i64 0, .int .i64 0], .bool false] := by rw [← hR.out, if_neg (fun h => by rw [hr] at h; cases h.1)]; rfl
    have LN := Lib.hid (show Calls Tryz.prog 8 #[.agg #[.int .i64 7, .int .i64 0, .int .i64 0, .int .i64 0, .string ⟨#[]⟩, .int .u64 0, .int .u64 0, .bool false, .bool false, .int .u64 0, .int .u64 0, .int .i64 o1, .int .i64 o2]] w9 fun e w' => e = .returned (.tuple #[.string ⟨#[]⟩, .bool false]) ∧ Below w9.heap.size w9 w' from LN0)
    clear LN0 hr
    go_upto_region 43 with (first
    | (with_reducible refine wpList_load_blk rfl 28 (.tmp 5) rfl g5 0 rfl B2 [.int .i64 7, .int .i64 0, .int .i64 0, .int .i64 0, .string ⟨#[]⟩, .int .u64 0, .int .u64 0, .bool false, .bool false, .int .u64 0, .int .u64 0, .int .i64 o1, .int .i64 o2] rfl _ Tryz.underlying28 rfl (by kernel_rfl) ?_)
    | (go_at_call 8; (refine LN.out.mono ?_); rintro e u1 ⟨rfl, hu1⟩))
    have hbF : Below w.heap.size w u1 := below_chain hu1 (below_chain hb9 hbw2.out)
    have H2 := Blk.call (Blk.call h2.out hb9) hu1
    have z0 : u1.cell? ⟨w.heap.size, 0, none⟩ = some (.int .i64 0) := Blk.cell H2 0
    have y0 : u1.frozen? ⟨w.heap.size, 0, none⟩ = false := Blk.frozen H2 0
    have z1 : u1.cell? ⟨w.heap.size, 1, none⟩ = some (.int .i64 0) := Blk.cell H2 1
    have y1 : u1.frozen? ⟨w.heap.size, 1, none⟩ = false := Blk.frozen H2 1
    have z2 : u1.cell? ⟨w.heap.size, 2, none⟩ = some (.int .i64 0) := Blk.cell H2 2
    have y2 : u1.frozen? ⟨w.heap.size, 2, none⟩ = false := Blk.frozen H2 2
    have z3 : u1.cell? ⟨w.heap.size, 3, none⟩ = some (.int .i64 0) := Blk.cell H2 3
    have y3 : u1.frozen? ⟨w.heap.size, 3, none⟩ = false := Blk.frozen H2 3
    have z4 : u1.cell? ⟨w.heap.size, 4, none⟩ = some (.string ⟨#[]⟩) := Blk.cell H2 4
    have y4 : u1.frozen? ⟨w.heap.size, 4, none⟩ = false := Blk.frozen H2 4
    have z5 : u1.cell? ⟨w.heap.size, 5, none⟩ = some (.int .u64 0) := Blk.cell H2 5
    have y5 : u1.frozen? ⟨w.heap.size, 5, none⟩ = false := Blk.frozen H2 5
    have z6 : u1.cell? ⟨w.heap.size, 6, none⟩ = some (.int .u64 0) := Blk.cell H2 6
    have y6 : u1.frozen? ⟨w.heap.size, 6, none⟩ = false := Blk.frozen H2 6
    have z7 : u1.cell? ⟨w.heap.size, 7, none⟩ = some (.bool false) := Blk.cell H2 7
    have y7 : u1.frozen? ⟨w.heap.size, 7, none⟩ = false := Blk.frozen H2 7
    have z8 : u1.cell? ⟨w.heap.size, 8, none⟩ = some (.bool false) := Blk.cell H2 8
    have y8 : u1.frozen? ⟨w.heap.size, 8, none⟩ = false := Blk.frozen H2 8
    have z9 : u1.cell? ⟨w.heap.size, 9, none⟩ = some (.int .u64 0) := Blk.cell H2 9
    have y9 : u1.frozen? ⟨w.heap.size, 9, none⟩ = false := Blk.frozen H2 9
    have z10 : u1.cell? ⟨w.heap.size, 10, none⟩ = some (.int .u64 0) := Blk.cell H2 10
    have y10 : u1.frozen? ⟨w.heap.size, 10, none⟩ = false := Blk.frozen H2 10
    have z11 : u1.cell? ⟨w.heap.size, 11, none⟩ = some (.int .i64 0) := Blk.cell H2 11
    have y11 : u1.frozen? ⟨w.heap.size, 11, none⟩ = false := Blk.frozen H2 11
    have z12 : u1.cell? ⟨w.heap.size, 12, none⟩ = some (.int .i64 0) := Blk.cell H2 12
    have y12 : u1.frozen? ⟨w.heap.size, 12, none⟩ = false := Blk.frozen H2 12
    obtain ⟨hP, hQ⟩ := act_put H2 (.int .i64 0) (.int .i64 0) (.int .i64 0) (.int .i64 0) (.string ⟨#[]⟩) (.int .u64 0) (.int .u64 0) (.bool false) (.bool false) (.int .u64 0) (.int .u64 0) (.int .i64 0) (.int .i64 0)
    replace hP := Lib.hid hP
    replace hQ := Lib.hid hQ
    replace hbF := Lib.hid hbF
    clear H2
    go_wp2_with fail
    refine bodyPost_ret (v := .tuple #[.agg #[.int .i64 0, .int .i64 0, .int .i64 0, .int .i64 0, .string ⟨#[]⟩, .int .u64 0, .int .u64 0, .bool false, .bool false, .int .u64 0, .int .u64 0, .int .i64 0, .int .i64 0], .bool false]) (results_cell2 rfl rfl rfl (loadVar_blk 28 hP.out [.int .i64 0, .int .i64 0, .int .i64 0, .int .i64 0, .string ⟨#[]⟩, .int .u64 0, .int .u64 0, .bool false, .bool false, .int .u64 0, .int .u64 0, .int .i64 0, .int .i64 0] rfl _ Tryz.underlying28 rfl (by kernel_rfl))) rfl ?_
    exact ⟨by rw [hRv], hbF.out.trans (hQ.out.below (fun b hb h => by omega) hbF.out.size)⟩
   | true =>
    rw [hr] at LN0
    obtain ⟨L, hLg⟩ : ∃ L, lineL (⟨7, 0, 0, 0, [], 0, 0, false, false, 0, 0, o1, o2⟩ : ActL) = L := ⟨_, rfl⟩
    rw [hLg] at LN0
    have LN := Lib.hid (show Calls Tryz.prog 8 #[.agg #[.int .i64 7, .int .i64 0, .int .i64 0, .int .i64 0, .string ⟨#[]⟩, .int .u64 0, .int .u64 0, .bool false, .bool false, .int .u64 0, .int .u64 0, .int .i64 o1, .int .i64 o2]] w9 fun e w' => e = .returned (.tuple #[.string ⟨L.toArray⟩, .bool true]) ∧ Below w9.heap.size w9 w' from LN0)
    replace hLg := Lib.hid hLg
    replace hr := Lib.hid hr
    clear LN0
    by_cases hl : L = l
    ·
     subst hl
     have hRv : R = .tuple #[.agg #[.int .i64 7, .int .i64 0, .int .i64 0, .int .i64 0, .string ⟨#[]⟩, .int .u64 0, .int .u64 0, .bool false, .bool false, .int .u64 0, .int .u64 0, .int .i64 o1, .int .i64 o2], .bool true] := by rw [← hR.out, if_pos ⟨hr.out, hLg.out⟩]; rfl
     have e1 : (L == L) = true := by simp
     have e2 : (L != L) = false := by simp
     go_upto_region 43 with (first
    | (with_reducible refine wpList_load_blk rfl 28 (.tmp 5) rfl g5 0 rfl B2 [.int .i64 7, .int .i64 0, .int .i64 0, .int .i64 0, .string ⟨#[]⟩, .int .u64 0, .int .u64 0, .bool false, .bool false, .int .u64 0, .int .u64 0, .int .i64 o1, .int .i64 o2] rfl _ Tryz.underlying28 rfl (by kernel_rfl) ?_)
    | (go_at_call 8; (refine LN.out.mono ?_); rintro e u1 ⟨rfl, hu1⟩))
     have hbF : Below w.heap.size w u1 := below_chain hu1 (below_chain hb9 hbw2.out)
     have H2 := Blk.call (Blk.call h2.out hb9) hu1
     have H5 := Blk.call B2 hu1
     replace hbF := Lib.hid hbF
     go_wp2_with (first
      | (with_reducible refine wpList_load_blk rfl 28 (.tmp 5) rfl g5 0 rfl H5 [.int .i64 7, .int .i64 0, .int .i64 0, .int .i64 0, .string ⟨#[]⟩, .int .u64 0, .int .u64 0, .bool false, .bool false, .int .u64 0, .int .u64 0, .int .i64 o1, .int .i64 o2] rfl _ Tryz.underlying28 rfl (by kernel_rfl) ?_)
      | (with_reducible refine wpList_store_blk rfl rfl 28 (.tmp 2) (.tmp 137) rfl w.heap.size 0 rfl H2 [.int .i64 7, .int .i64 0, .int .i64 0, .int .i64 0, .string ⟨#[]⟩, .int .u64 0, .int .u64 0, .bool false, .bool false, .int .u64 0, .int .u64 0, .int .i64 o1, .int .i64 o2] rfl (Nat.le_of_ble_eq_true (by kernel_rfl)) (by kernel_rfl) rfl ?_; intro wy hBy hcy hzy))
     refine bodyPost_ret (v := .tuple #[.agg #[.int .i64 7, .int .i64 0, .int .i64 0, .int .i64 0, .string ⟨#[]⟩, .int .u64 0, .int .u64 0, .bool false, .bool false, .int .u64 0, .int .u64 0, .int .i64 o1, .int .i64 o2], .bool true]) (results_cell2 rfl rfl rfl (loadVar_blk 28 hBy [.int .i64 7, .int .i64 0, .int .i64 0, .int .i64 0, .string ⟨#[]⟩, .int .u64 0, .int .u64 0, .bool false, .bool false, .int .u64 0, .int .u64 0, .int .i64 o1, .int .i64 o2] rfl _ Tryz.underlying28 rfl (by kernel_rfl))) rfl ?_
     exact ⟨by rw [hRv], hbF.out.trans (hcy.below (fun b hb h => by omega) hbF.out.size)⟩
    ·
     have hRv : R = .tuple #[.agg #[.int .i64 0, .int .i64 0, .int .i64 0, .int .i64 0, .string ⟨#[]⟩, .int .u64 0, .int .u64 0, .bool false, .bool false, .int .u64 0, .int .u64 0, .int .i64 0, .int .i64 0], .bool false] := by rw [← hR.out, if_neg (fun h => hl (hLg.out.symm.trans h.2))]; rfl
     have e1 : (L == l) = false := by simpa using hl
     have e2 : (L != l) = true := by simpa using hl
     go_upto_region 43 with (first
    | (with_reducible refine wpList_load_blk rfl 28 (.tmp 5) rfl g5 0 rfl B2 [.int .i64 7, .int .i64 0, .int .i64 0, .int .i64 0, .string ⟨#[]⟩, .int .u64 0, .int .u64 0, .bool false, .bool false, .int .u64 0, .int .u64 0, .int .i64 o1, .int .i64 o2] rfl _ Tryz.underlying28 rfl (by kernel_rfl) ?_)
    | (go_at_call 8; (refine LN.out.mono ?_); rintro e u1 ⟨rfl, hu1⟩))
     have hbF : Below w.heap.size w u1 := below_chain hu1 (below_chain hb9 hbw2.out)
     have H2 := Blk.call (Blk.call h2.out hb9) hu1
     have z0 : u1.cell? ⟨w.heap.size, 0, none⟩ = some (.int .i64 0) := Blk.cell H2 0
     have y0 : u1.frozen? ⟨w.heap.size, 0, none⟩ = false := Blk.frozen H2 0
     have z1 : u1.cell? ⟨w.heap.size, 1, none⟩ = some (.int .i64 0) := Blk.cell H2 1
     have y1 : u1.frozen? ⟨w.heap.size, 1, none⟩ = false := Blk.frozen H2 1
     have z2 : u1.cell? ⟨w.heap.size, 2, none⟩ = some (.int .i64 0) := Blk.cell H2 2
     have y2 : u1.frozen? ⟨w.heap.size, 2, none⟩ = false := Blk.frozen H2 2
     have z3 : u1.cell? ⟨w.heap.size, 3, none⟩ = some (.int .i64 0) := Blk.cell H2 3
     have y3 : u1.frozen? ⟨w.heap.size, 3, none⟩ = false := Blk.frozen H2 3
     have z4 : u1.cell? ⟨w.heap.size, 4, none⟩ = some (.string ⟨#[]⟩) := Blk.cell H2 4
     have y4 : u1.frozen? ⟨w.heap.size, 4, none⟩ = false := Blk.frozen H2 4
     have z5 : u1.cell? ⟨w.heap.size, 5, none⟩ = some (.int .u64 0) := Blk.cell H2 5
     have y5 : u1.frozen? ⟨w.heap.size, 5, none⟩ = false := Blk.frozen H2 5
     have z6 : u1.cell? ⟨w.heap.size, 6, none⟩ = some (.int .u64 0) := Blk.cell H2 6
     have y6 : u1.frozen? ⟨w.heap.size, 6, none⟩ = false := Blk.frozen H2 6
     have z7 : u1.cell? ⟨w.heap.size, 7, none⟩ = some (.bool false) := Blk.cell H2 7
     have y7 : u1.frozen? ⟨w.heap.size, 7, none⟩ = false := Blk.frozen H2 7
     have z8 : u1.cell? ⟨w.heap.size, 8, none⟩ = some (.bool false) := Blk.cell H2 8
     have y8 : u1.frozen? ⟨w.heap.size, 8, none⟩ = false := Blk.frozen H2 8
     have z9 : u1.cell? ⟨w.heap.size, 9, none⟩ = some (.int .u64 0) := Blk.cell H2 9
     have y9 : u1.frozen? ⟨w.heap.size, 9, none⟩ = false := Blk.frozen H2 9
     have z10 : u1.cell? ⟨w.heap.size, 10, none⟩ = some (.int .u64 0) := Blk.cell H2 10
     have y10 : u1.frozen? ⟨w.heap.size, 10, none⟩ = false := Blk.frozen H2 10
     have z11 : u1.cell? ⟨w.heap.size, 11, none⟩ = some (.int .i64 0) := Blk.cell H2 11
     have y11 : u1.frozen? ⟨w.heap.size, 11, none⟩ = false := Blk.frozen H2 11
     have z12 : u1.cell? ⟨w.heap.size, 12, none⟩ = some (.int .i64 0) := Blk.cell H2 12
     have y12 : u1.frozen? ⟨w.heap.size, 12, none⟩ = false := Blk.frozen H2 12
     obtain ⟨hP, hQ⟩ := act_put H2 (.int .i64 0) (.int .i64 0) (.int .i64 0) (.int .i64 0) (.string ⟨#[]⟩) (.int .u64 0) (.int .u64 0) (.bool false) (.bool false) (.int .u64 0) (.int .u64 0) (.int .i64 0) (.int .i64 0)
     replace hP := Lib.hid hP
     replace hQ := Lib.hid hQ
     replace hbF := Lib.hid hbF
     clear H2
     go_wp2_with fail
     refine bodyPost_ret (v := .tuple #[.agg #[.int .i64 0, .int .i64 0, .int .i64 0, .int .i64 0, .string ⟨#[]⟩, .int .u64 0, .int .u64 0, .bool false, .bool false, .int .u64 0, .int .u64 0, .int .i64 0, .int .i64 0], .bool false]) (results_cell2 rfl rfl rfl (loadVar_blk 28 hP.out [.int .i64 0, .int .i64 0, .int .i64 0, .int .i64 0, .string ⟨#[]⟩, .int .u64 0, .int .u64 0, .bool false, .bool false, .int .u64 0, .int .u64 0, .int .i64 0, .int .i64 0] rfl _ Tryz.underlying28 rfl (by kernel_rfl))) rfl ?_
     exact ⟨by rw [hRv], hbF.out.trans (hQ.out.below (fun b hb h => by omega) hbF.out.size)⟩
set_option maxRecDepth 100000 in
set_option maxHeartbeats 64000000 in
theorem rparse10 (l : List UInt8) (w : World) (hL : l.length ≤ 9999) (ws : List (List UInt8)) (hp : parts 32 l = ws) (hk : kgo (wAt ws 0) 12 = 10) (a1 a2 a3 al : List UInt8) (h1 : wAt ws 1 = a1) (hh2 : wAt ws 2 = a2) (h3 : wAt ws 3 = a3) (hl4 : wLast ws = al)
  (o1 o2 : Int) (s : List UInt8) (is : Bool) (x2 x3 : Nat) (y : Bool × Nat × Nat) (ho1 : valL a1 = o1) (ho2 : valL a2 = o2) (hs : (unhexL al).getD [] = s) (his : (al == [111, 110]) = is) (_hx2 : wideL a2 = x2) (_hx3 : wideL a3 = x3) (_hy : adrOf a2 = y)
  (hin : inL (⟨10, o1, 0, 0, [], 0, 0, false, false, 0, 0, 0, 0⟩ : ActL)) (hgs : ((⟨10, o1, 0, 0, [], 0, 0, false, false, 0, 0, 0, 0⟩ : ActL)).s.length ≤ 1000000) (g1 : a1.length ≤ 10000) (g2 : a2.length ≤ 10000) (_g3 : a3.length ≤ 10000) (g4 : al.length ≤ 10000) :
  Calls Tryz.prog 10 #[.string ⟨l.toArray⟩] w fun e w' => e = .returned (parseV (if rightL (⟨10, o1, 0, 0, [], 0, 0, false, false, 0, 0, 0, 0⟩ : ActL) = true ∧ lineL (⟨10, o1, 0, 0, [], 0, 0, false, false, 0, 0, 0, 0⟩ : ActL) = l then some (⟨10, o1, 0, 0, [], 0, 0, false, false, 0, 0, 0, 0⟩ : ActL) else none)) ∧ Below w.heap.size w w' := by
 obtain ⟨R, hR⟩ : ∃ R, parseV (if rightL (⟨10, o1, 0, 0, [], 0, 0, false, false, 0, 0, 0, 0⟩ : ActL) = true ∧ lineL (⟨10, o1, 0, 0, [], 0, 0, false, false, 0, 0, 0, 0⟩ : ActL) = l then some (⟨10, o1, 0, 0, [], 0, 0, false, false, 0, 0, 0, 0⟩ : ActL) else none) = R := ⟨_, rfl⟩
 rw [hR]
 replace hR := Lib.hid hR
 obtain ⟨w1, hw1⟩ : ∃ w1, w1 = w.alloc (.cells #[.int .i64 0, .int .i64 0, .int .i64 0, .int .i64 0, .string ⟨#[]⟩, .int .u64 0, .int .u64 0, .bool false, .bool false, .int .u64 0, .int .u64 0, .int .i64 0, .int .i64 0] 28) := ⟨_, rfl⟩
 have hb1 : Below w.heap.size w w1 := hw1 ▸ below_alloc (Below.refl _ _) _
 have h20 : Blk w1 w.heap.size 28 #[.int .i64 0, .int .i64 0, .int .i64 0, .int .i64 0, .string ⟨#[]⟩, .int .u64 0, .int .u64 0, .bool false, .bool false, .int .u64 0, .int .u64 0, .int .i64 0, .int .i64 0] := by rw [hw1]; exact Blk.new w 28 _
 have PT := ref_parts l 32 w1 (by omega)
 rw [hp] at PT
 replace PT := Lib.hid (show Calls Tryz.prog 31 #[.string ⟨l.toArray⟩, .int .u8 32] w1 _ from PT)
 have hws0 : 0 < ws.length := by rw [← hp]; obtain ⟨p, ps, e⟩ := parts_cons 32 l; rw [e]; simp
 have hwl : ws.length ≤ 10000 := by rw [← hp]; have := (parts_len 32 l).1; omega
 have hne : ws ≠ [] := by intro e; rw [e] at hws0; simp at hws0
 have VA := Lib.hid rs_value
 have WD := Lib.hid rs_words
 have V1 := Lib.hid fun W => (show Calls Tryz.prog 32 #[.string ⟨a1.toArray⟩] W fun e w' => e = .returned (.int .i64 o1) ∧ Below W.heap.size W w' from by rw [← ho1]; exact rs_value a1 W (by omega))
 have V2 := Lib.hid fun W => (show Calls Tryz.prog 32 #[.string ⟨a2.toArray⟩] W fun e w' => e = .returned (.int .i64 o2) ∧ Below W.heap.size W w' from by rw [← ho2]; exact rs_value a2 W (by omega))
 obtain ⟨q, hq⟩ : ∃ q, (unhexL al).isSome = q := ⟨_, rfl⟩
 have UN := Lib.hid fun W => (show Calls Tryz.prog 34 #[.string ⟨al.toArray⟩] W fun e w' => e = .returned (.tuple #[.string ⟨s.toArray⟩, .bool q]) ∧ Below W.heap.size W w' from by
  have h := ref_unhex al W (by omega)
  have e : unhexV al = .tuple #[.string ⟨s.toArray⟩, .bool q] := by
   rw [← hs, ← hq]
   unfold unhexV
   cases unhexL al <;> rfl
  rw [e] at h
  exact h)
 obtain ⟨w0, hw0⟩ : ∃ w0, wAt ws 0 = w0 := ⟨_, rfl⟩
 rw [hw0] at hk
 clear hp hL g1 g2 _g3 g4 ho1 ho2 hs _hx2 _hx3 _hy hq
 replace hk := Lib.hid hk
 replace hb1 := Lib.hid hb1
 replace h20 := Lib.hid h20
 replace hne := Lib.hid hne
 replace hin := Lib.hid hin
 replace hgs := Lib.hid hgs
 go_enter Tryz.func10, Tryz.ntmps10
 go_upto_region 1 with fail
 rw [← hw1]
 clear hw1
 go_upto_region 2 with (go_at_call 31; (refine PT.out.mono ?_); rintro e w2 ⟨A, ck, rfl, hO2, hb2⟩)
 have hbw2 := Lib.hid (below_chain hb2 hb1.out)
 have h2 := Lib.hid (Blk.call h20.out hb2)
 obtain ⟨g, rfl, -⟩ := own_form hO2 hne.out
 go_upto_region 3 with fail
 have K3 : Blk (w2.alloc (.cells #[.int .i64 (-1), .int .i64 0, .int .i64 0, .int .i64 0, .string ⟨#[]⟩, .int .u64 0, .int .u64 0, .bool false, .bool false, .int .u64 0, .int .u64 0, .int .i64 0, .int .i64 0] 28)) w2.heap.size 28 (actCs (zeroL (-1))) := Blk.new w2 28 _
 have hb3 : Below w2.heap.size w2 (w2.alloc (.cells #[.int .i64 (-1), .int .i64 0, .int .i64 0, .int .i64 0, .string ⟨#[]⟩, .int .u64 0, .int .u64 0, .bool false, .bool false, .int .u64 0, .int .u64 0, .int .i64 0, .int .i64 0] 28)) := below_alloc (Below.refl _ _) _
 generalize w2.alloc (.cells #[.int .i64 (-1), .int .i64 0, .int .i64 0, .int .i64 0, .string ⟨#[]⟩, .int .u64 0, .int .u64 0, .bool false, .bool false, .int .u64 0, .int .u64 0, .int .i64 0, .int .i64 0] 28) = w3 at *
 obtain ⟨g5, hg5⟩ : ∃ g5, w2.heap.size = g5 := ⟨_, rfl⟩
 rw [hg5] at K3
 have hgb : w2.heap.size ≤ g5 := by omega
 rw [hg5]
 replace hg5 := Lib.hid hg5
 replace hb3 := Lib.hid hb3
 replace K3 := Lib.hid K3
 replace hO2 := Lib.hid hO2
 go_wp2_with fail
 go_loopw [6] (fun i wr => ∃ j : Nat, j ≤ 12 ∧ i = .int .i64 (j : Nat) ∧ Blk wr g5 28 (actCs (zeroL (kgo w0 j))) ∧ Below w2.heap.size w2 wr) (fun i _ => 12 - (intOf i).toNat)
 case atStart => exact ⟨0, by omega, rfl, K3.out, hb3.out⟩
 case round =>
  obtain ⟨j, hj, rfl, hBj, hb⟩ := hrel
  by_cases hlt : j < 12
  ·
   have hlti : (j : Int) < 12 := by omega
   have hj0 : (0 : Int) ≤ (j : Int) := by omega
   have hw0i : (0 : Int) < (ws.length : Int) := by omega
   have hC := Lib.hid fun W (h : Below wr.heap.size wr W) => (show W.cell? ⟨g, 0, none⟩ = some (.string ⟨w0.toArray⟩) from by
    have := own_first ((OwnA.call hO2.out hb).call h) hws0
    rw [← hw0]; exact this)
   have hkg : kgo w0 (j + 1) = if wordsL.getD j [] = w0 then (j : Int) else kgo w0 j := rfl
   obtain ⟨wd, hwd⟩ : ∃ wd, wordsL.getD j [] = wd := ⟨_, rfl⟩
   rw [hwd] at hkg
   replace hwd := Lib.hid hwd
   have hbD := (Below.refl wr.heap.size wr).drew
   go_wp2_with fail
   refine wp_region_held_drew (S := fun W => Below wr.heap.size wr W ∧ W.cell? ⟨g, 0, none⟩ = some (.string ⟨w0.toArray⟩)) (by kernel_rfl) ⟨hbD, hC.out _ hbD⟩ (fun hHeld => ?_)
   generalize wr.drew = wd0 at *
   refine' tk 1 rfl rfl ?_ ?_; rotate_left; · ((intro w hSw; (try dsimp only at hSw); go_simp) <;> with_reducible rfl); try go_frame
   refine' tk 4 rfl rfl ?_ ?_; rotate_left; · ((intro w hSw; (try dsimp only at hSw); go_simp) <;> with_reducible rfl); try go_frame
   refine' tk 5 rfl rfl ?_ ?_; rotate_left; · ((intro w hSw; (try dsimp only at hSw); go_simp) <;> with_reducible rfl); try go_frame
   refine' tk 6 rfl rfl ?_ ?_; rotate_left; · ((intro w hSw; (try dsimp only at hSw); go_simp) <;> with_reducible rfl); try go_frame
   refine wpAnyH_ready (rs := [0]) (by kernel_rfl) (by simp) ?_; refine consH rfl (fun K hK => ?_) AllReadyH.nil
   go_simp
   (go_at_call 23; (with_reducible refine (WD.out _).mono ?_))
   rintro e w4 ⟨rfl, hB4, hb4⟩
   have hbS4 := below_chain hb4 hHeld.1
   have cW : w4.cell? ⟨wd0.heap.size, j, none⟩ = some (.string ⟨wd.toArray⟩) := by have hc := blk_str hB4 (j := j) (by exact hlt); rw [hwd.out] at hc; exact hc
   refine hK.out _ _ ⟨hbS4, hC.out _ hbS4⟩ (fun hHeld4 => ?_)
   clear hK K
   try go_frame
   refine' tk 2 rfl rfl ?_ ?_; rotate_left; · ((intro w hSw; (try dsimp only at hSw); go_simp) <;> with_reducible rfl); try go_frame
   refine wpAnyH_ready (rs := [3]) (by kernel_rfl) (by simp) ?_; refine consH rfl (fun K hK => ?_) AllReadyH.nil
   go_simp
   refine hK.out _ _ hHeld4 (fun hHeld5 => ?_)
   clear hK K
   try go_frame
   have hB5 := Blk.call hBj hHeld5.1
   have hb5 := below_chain hHeld5.1 hb
   have c0 : w4.cell? ⟨g5, 0, none⟩ = some (.int .i64 (kgo w0 j)) := hB5.cell 0
   have f0 : w4.frozen? ⟨g5, 0, none⟩ = false := hB5.frozen 0
   generalize kgo w0 j = kj at *
   by_cases hyx : wd = w0
   ·
    subst hyx
    have e1 : (wd == wd) = true := by simp
    rw [if_pos rfl] at hkg
    have hBn : Blk (w4.setCell ⟨g5, 0, none⟩ (.int .i64 (j : Nat))) g5 28 (actCs (zeroL (kgo wd (j + 1)))) := by rw [hkg]; exact Blk.setAt hB5 0 (.int .i64 (j : Nat))
    have hbn : Below w2.heap.size w2 (w4.setCell ⟨g5, 0, none⟩ (.int .i64 (j : Nat))) := Below.setCell hb5 hgb _
    replace hBn := Lib.hid hBn
    replace hbn := Lib.hid hbn
    clear hkg
    refine' tk 7 rfl rfl ?_ ?_; rotate_left; · ((intro w hSw; (try dsimp only at hSw); go_simp) <;> with_reducible rfl); try go_frame
    refine wpAnyH_done (by kernel_rfl) ?_ _
    go_wp2_with fail
    go_roundw
    case rel => exact ⟨j + 1, by omega, by go_num, hBn.out, hbn.out⟩
    case measure => simp [intOf]; omega
   ·
    have e1 : (wd == w0) = false := by simpa using hyx
    rw [if_neg hyx] at hkg
    have hBn : Blk w4 g5 28 (actCs (zeroL (kgo w0 (j + 1)))) := by rw [hkg]; exact hB5
    replace hBn := Lib.hid hBn
    clear hkg
    refine' tk 7 rfl rfl ?_ ?_; rotate_left; · ((intro w hSw; (try dsimp only at hSw); go_simp) <;> with_reducible rfl); try go_frame
    refine wpAnyH_done (by kernel_rfl) ?_ _
    go_wp2_with fail
    go_roundw
    case rel => exact ⟨j + 1, by omega, by go_num, hBn.out, hb5⟩
    case measure => simp [intOf]; omega
  ·
   have hlti : ¬ (j : Int) < 12 := by omega
   obtain rfl : j = 12 := by omega
   rw [hk.out] at hBj
   have hOr := OwnA.call hO2.out hb
   have W1 := Lib.hid fun W (h : Below wr.heap.size wr W) => (show Calls Tryz.prog 33 #[.slice (some ⟨g, 0, none⟩) ws.length ck, .int .i64 1] W fun e w' => e = .returned (.string ⟨a1.toArray⟩) ∧ W = w' from by rw [← h1]; exact rs_word _ _ ws 1 _ W (OwnA.call hOr h))
   have W2 := Lib.hid fun W (h : Below wr.heap.size wr W) => (show Calls Tryz.prog 33 #[.slice (some ⟨g, 0, none⟩) ws.length ck, .int .i64 2] W fun e w' => e = .returned (.string ⟨a2.toArray⟩) ∧ W = w' from by rw [← hh2]; exact rs_word _ _ ws 2 _ W (OwnA.call hOr h))
   have W3 := Lib.hid fun W (h : Below wr.heap.size wr W) => (show Calls Tryz.prog 33 #[.slice (some ⟨g, 0, none⟩) ws.length ck, .int .i64 3] W fun e w' => e = .returned (.string ⟨a3.toArray⟩) ∧ W = w' from by rw [← h3]; exact rs_word _ _ ws 3 _ W (OwnA.call hOr h))
   have WL := Lib.hid fun W (h : Below wr.heap.size wr W) => (show Calls Tryz.prog 33 #[.slice (some ⟨g, 0, none⟩) ws.length ck, .int .i64 ((ws.length : Int) - 1)] W fun e w' => e = .returned (.string ⟨al.toArray⟩) ∧ W = w' from by
    rw [← hl4, show ((ws.length : Int) - 1) = ((ws.length - 1 : Nat) : Int) by omega]
    exact rs_word _ _ ws (ws.length - 1) _ W (OwnA.call hOr h))
   have hwi : IntKind.i64.wrap ((ws.length : Int) - 1) = (ws.length : Int) - 1 := by rw [IntKind.wrap_i64]; omega
   have hw64 : wrap64 ((ws.length : Int) - 1) = (ws.length : Int) - 1 := by unfold wrap64; omega
   have hbR : Below wr.heap.size wr wr := Below.refl _ _
   replace hb := Lib.hid hb
   replace hBj := Lib.hid (show Blk wr g5 28 #[.int .i64 10, .int .i64 0, .int .i64 0, .int .i64 0, .string ⟨#[]⟩, .int .u64 0, .int .u64 0, .bool false, .bool false, .int .u64 0, .int .u64 0, .int .i64 0, .int .i64 0] from hBj)
   replace hws0 := Lib.hid hws0
   replace hwl := Lib.hid hwl
   clear hO2 hOr K3 hb3 hj WD VA PT
   go_upto_region 11 with (first
    | (go_at_call 33; (with_reducible refine (W1.out _ (by assumption)).mono ?_); rintro e w5 ⟨rfl, rfl⟩)
    | (go_at_call 33; (with_reducible refine (W2.out _ (by assumption)).mono ?_); rintro e w5 ⟨rfl, rfl⟩)
    | (go_at_call 33; (with_reducible refine (WL.out _ (by assumption)).mono ?_); rintro e w5 ⟨rfl, rfl⟩)
    | (go_at_call 32; (with_reducible refine (V1.out _).mono ?_); rintro e w6 ⟨rfl, hb6⟩; have hb6r : Below wr.heap.size wr w6 := below_chain hb6 hbR)
    | (go_at_call 32; (with_reducible refine (V2.out _).mono ?_); rintro e w7 ⟨rfl, hb7⟩; have hb7r : Below wr.heap.size wr w7 := below_chain hb7 hb6r)
    | (go_at_call 34; (with_reducible refine (UN.out _).mono ?_); rintro e w8 ⟨rfl, hb8⟩; have hb8r : Below wr.heap.size wr w8 := below_chain hb8 hb7r))
   have hB8 := Blk.call hBj.out hb8r
   have k0 : w8.cell? ⟨g5, 0, none⟩ = some (.int .i64 10) := hB8.cell 0
   clear V1 V2 UN W1 WL hb6 hb7 hb8 hb6r hb7r
   have sc1 : w8.cell? ⟨g5, 1, none⟩ = some (.int .i64 0) := Blk.cell hB8 1
   have sf1 : w8.frozen? ⟨g5, 1, none⟩ = false := Blk.frozen hB8 1
   go_upto_region 42 with fail
   have B3 : Blk (w8.setCell ⟨g5, 1, none⟩ (.int .i64 o1)) g5 28 #[.int .i64 10, .int .i64 o1, .int .i64 0, .int .i64 0, .string ⟨#[]⟩, .int .u64 0, .int .u64 0, .bool false, .bool false, .int .u64 0, .int .u64 0, .int .i64 0, .int .i64 0] := Blk.setAt hB8 1 (.int .i64 o1)
   have C3 : Chg (fun k => k = g5) w8 (w8.setCell ⟨g5, 1, none⟩ (.int .i64 o1)) := (Chg.refl (fun k => k = g5) w8).setCell (p := ⟨g5, 1, none⟩) (fun _ => rfl) _
   have hb9 : Below w2.heap.size w2 (w8.setCell ⟨g5, 1, none⟩ (.int .i64 o1)) := (below_chain hb8r hb.out).trans (C3.below (fun b hb h => by omega) (below_chain hb8r hb.out).size)
   clear sc1 sf1
   generalize w8.setCell ⟨g5, 1, none⟩ (.int .i64 o1) = w9 at *
   have LN0 := rs_line (⟨10, o1, 0, 0, [], 0, 0, false, false, 0, 0, 0, 0⟩ : ActL) w9 hin.out hgs.out
   have e5 : g5 < w9.heap.size := Blk.lt B3
   replace e5 := Lib.hid e5
   cases hr : rightL (⟨10, o1, 0, 0, [], 0, 0, false, false, 0, 0, 0, 0⟩ : ActL) with
   | false =>
    rw [hr] at LN0
    have hRv : R = .tuple #[.agg #[.int .i64 0, .int .i64 0, .int .i64 0, .int .i64 0, .string ⟨#[]⟩, .int .u64 0, .int .u64 0, .bool false, .bool false, .int .u64 0, .int .u64 0, .int .i64 0, .int .i64 0], .bool false] := by rw [← hR.out, if_neg (fun h => by rw [hr] at h; cases h.1)]; rfl
    have LN := Lib.hid (show Calls Tryz.prog 8 #[.agg #[.int .i64 10, .int .i64 o1, .int .i64 0, .int .i64 0, .string ⟨#[]⟩, .int .u64 0, .int .u64 0, .bool false, .bool false, .int .u64 0, .int .u64 0, .int .i64 0, .int .i64 0]] w9 fun e w' => e = .returned (.tuple #[.string ⟨#[]⟩, .bool false]) ∧ Below w9.heap.size w9 w' from LN0)
    clear LN0 hr
    go_upto_region 43 with (first
    | (with_reducible refine wpList_load_blk rfl 28 (.tmp 5) rfl g5 0 rfl B3 [.int .i64 10, .int .i64 o1, .int .i64 0, .int .i64 0, .string ⟨#[]⟩, .int .u64 0, .int .u64 0, .bool false, .bool false, .int .u64 0, .int .u64 0, .int .i64 0, .int .i64 0] rfl _ Tryz.underlying28 rfl (by kernel_rfl) ?_)
    | (go_at_call 8; (refine LN.out.mono ?_); rintro e u1 ⟨rfl, hu1⟩))
    have hbF : Below w.heap.size w u1 := below_chain hu1 (below_chain hb9 hbw2.out)
    have H2 := Blk.call (Blk.call h2.out hb9) hu1
    have z0 : u1.cell? ⟨w.heap.size, 0, none⟩ = some (.int .i64 0) := Blk.cell H2 0
    have y0 : u1.frozen? ⟨w.heap.size, 0, none⟩ = false := Blk.frozen H2 0
    have z1 : u1.cell? ⟨w.heap.size, 1, none⟩ = some (.int .i64 0) := Blk.cell H2 1
    have y1 : u1.frozen? ⟨w.heap.size, 1, none⟩ = false := Blk.frozen H2 1
    have z2 : u1.cell? ⟨w.heap.size, 2, none⟩ = some (.int .i64 0) := Blk.cell H2 2
    have y2 : u1.frozen? ⟨w.heap.size, 2, none⟩ = false := Blk.frozen H2 2
    have z3 : u1.cell? ⟨w.heap.size, 3, none⟩ = some (.int .i64 0) := Blk.cell H2 3
    have y3 : u1.frozen? ⟨w.heap.size, 3, none⟩ = false := Blk.frozen H2 3
    have z4 : u1.cell? ⟨w.heap.size, 4, none⟩ = some (.string ⟨#[]⟩) := Blk.cell H2 4
    have y4 : u1.frozen? ⟨w.heap.size, 4, none⟩ = false := Blk.frozen H2 4
    have z5 : u1.cell? ⟨w.heap.size, 5, none⟩ = some (.int .u64 0) := Blk.cell H2 5
    have y5 : u1.frozen? ⟨w.heap.size, 5, none⟩ = false := Blk.frozen H2 5
    have z6 : u1.cell? ⟨w.heap.size, 6, none⟩ = some (.int .u64 0) := Blk.cell H2 6
    have y6 : u1.frozen? ⟨w.heap.size, 6, none⟩ = false := Blk.frozen H2 6
    have z7 : u1.cell? ⟨w.heap.size, 7, none⟩ = some (.bool false) := Blk.cell H2 7
    have y7 : u1.frozen? ⟨w.heap.size, 7, none⟩ = false := Blk.frozen H2 7
    have z8 : u1.cell? ⟨w.heap.size, 8, none⟩ = some (.bool false) := Blk.cell H2 8
    have y8 : u1.frozen? ⟨w.heap.size, 8, none⟩ = false := Blk.frozen H2 8
    have z9 : u1.cell? ⟨w.heap.size, 9, none⟩ = some (.int .u64 0) := Blk.cell H2 9
    have y9 : u1.frozen? ⟨w.heap.size, 9, none⟩ = false := Blk.frozen H2 9
    have z10 : u1.cell? ⟨w.heap.size, 10, none⟩ = some (.int .u64 0) := Blk.cell H2 10
    have y10 : u1.frozen? ⟨w.heap.size, 10, none⟩ = false := Blk.frozen H2 10
    have z11 : u1.cell? ⟨w.heap.size, 11, none⟩ = some (.int .i64 0) := Blk.cell H2 11
    have y11 : u1.frozen? ⟨w.heap.size, 11, none⟩ = false := Blk.frozen H2 11
    have z12 : u1.cell? ⟨w.heap.size, 12, none⟩ = some (.int .i64 0) := Blk.cell H2 12
    have y12 : u1.frozen? ⟨w.heap.size, 12, none⟩ = false := Blk.frozen H2 12
    obtain ⟨hP, hQ⟩ := act_put H2 (.int .i64 0) (.int .i64 0) (.int .i64 0) (.int .i64 0) (.string ⟨#[]⟩) (.int .u64 0) (.int .u64 0) (.bool false) (.bool false) (.int .u64 0) (.int .u64 0) (.int .i64 0) (.int .i64 0)
    replace hP := Lib.hid hP
    replace hQ := Lib.hid hQ
    replace hbF := Lib.hid hbF
    clear H2
    go_wp2_with fail
    refine bodyPost_ret (v := .tuple #[.agg #[.int .i64 0, .int .i64 0, .int .i64 0, .int .i64 0, .string ⟨#[]⟩, .int .u64 0, .int .u64 0, .bool false, .bool false, .int .u64 0, .int .u64 0, .int .i64 0, .int .i64 0], .bool false]) (results_cell2 rfl rfl rfl (loadVar_blk 28 hP.out [.int .i64 0, .int .i64 0, .int .i64 0, .int .i64 0, .string ⟨#[]⟩, .int .u64 0, .int .u64 0, .bool false, .bool false, .int .u64 0, .int .u64 0, .int .i64 0, .int .i64 0] rfl _ Tryz.underlying28 rfl (by kernel_rfl))) rfl ?_
    exact ⟨by rw [hRv], hbF.out.trans (hQ.out.below (fun b hb h => by omega) hbF.out.size)⟩
   | true =>
    rw [hr] at LN0
    obtain ⟨L, hLg⟩ : ∃ L, lineL (⟨10, o1, 0, 0, [], 0, 0, false, false, 0, 0, 0, 0⟩ : ActL) = L := ⟨_, rfl⟩
    rw [hLg] at LN0
    have LN := Lib.hid (show Calls Tryz.prog 8 #[.agg #[.int .i64 10, .int .i64 o1, .int .i64 0, .int .i64 0, .string ⟨#[]⟩, .int .u64 0, .int .u64 0, .bool false, .bool false, .int .u64 0, .int .u64 0, .int .i64 0, .int .i64 0]] w9 fun e w' => e = .returned (.tuple #[.string ⟨L.toArray⟩, .bool true]) ∧ Below w9.heap.size w9 w' from LN0)
    replace hLg := Lib.hid hLg
    replace hr := Lib.hid hr
    clear LN0
    by_cases hl : L = l
    ·
     subst hl
     have hRv : R = .tuple #[.agg #[.int .i64 10, .int .i64 o1, .int .i64 0, .int .i64 0, .string ⟨#[]⟩, .int .u64 0, .int .u64 0, .bool false, .bool false, .int .u64 0, .int .u64 0, .int .i64 0, .int .i64 0], .bool true] := by rw [← hR.out, if_pos ⟨hr.out, hLg.out⟩]; rfl
     have e1 : (L == L) = true := by simp
     have e2 : (L != L) = false := by simp
     go_upto_region 43 with (first
    | (with_reducible refine wpList_load_blk rfl 28 (.tmp 5) rfl g5 0 rfl B3 [.int .i64 10, .int .i64 o1, .int .i64 0, .int .i64 0, .string ⟨#[]⟩, .int .u64 0, .int .u64 0, .bool false, .bool false, .int .u64 0, .int .u64 0, .int .i64 0, .int .i64 0] rfl _ Tryz.underlying28 rfl (by kernel_rfl) ?_)
    | (go_at_call 8; (refine LN.out.mono ?_); rintro e u1 ⟨rfl, hu1⟩))
     have hbF : Below w.heap.size w u1 := below_chain hu1 (below_chain hb9 hbw2.out)
     have H2 := Blk.call (Blk.call h2.out hb9) hu1
     have H5 := Blk.call B3 hu1
     replace hbF := Lib.hid hbF
     go_wp2_with (first
      | (with_reducible refine wpList_load_blk rfl 28 (.tmp 5) rfl g5 0 rfl H5 [.int .i64 10, .int .i64 o1, .int .i64 0, .int .i64 0, .string ⟨#[]⟩, .int .u64 0, .int .u64 0, .bool false, .bool false, .int .u64 0, .int .u64 0, .int .i64 0, .int .i64 0] rfl _ Tryz.underlying28 rfl (by kernel_rfl) ?_)
      | (with_reducible refine wpList_store_blk rfl rfl 28 (.tmp 2) (.tmp 137) rfl w.heap.size 0 rfl H2 [.int .i64 10, .int .i64 o1, .int .i64 0, .int .i64 0, .string ⟨#[]⟩, .int .u64 0, .int .u64 0, .bool false, .bool false, .int .u64 0, .int .u64 0, .int .i64 0, .int .i64 0] rfl (Nat.le_of_ble_eq_true (by kernel_rfl)) (by kernel_rfl) rfl ?_; intro wy hBy hcy hzy))
     refine bodyPost_ret (v := .tuple #[.agg #[.int .i64 10, .int .i64 o1, .int .i64 0, .int .i64 0, .string ⟨#[]⟩, .int .u64 0, .int .u64 0, .bool false, .bool false, .int .u64 0, .int .u64 0, .int .i64 0, .int .i64 0], .bool true]) (results_cell2 rfl rfl rfl (loadVar_blk 28 hBy [.int .i64 10, .int .i64 o1, .int .i64 0, .int .i64 0, .string ⟨#[]⟩, .int .u64 0, .int .u64 0, .bool false, .bool false, .int .u64 0, .int .u64 0, .int .i64 0, .int .i64 0] rfl _ Tryz.underlying28 rfl (by kernel_rfl))) rfl ?_
     exact ⟨by rw [hRv], hbF.out.trans (hcy.below (fun b hb h => by omega) hbF.out.size)⟩
    ·
     have hRv : R = .tuple #[.agg #[.int .i64 0, .int .i64 0, .int .i64 0, .int .i64 0, .string ⟨#[]⟩, .int .u64 0, .int .u64 0, .bool false, .bool false, .int .u64 0, .int .u64 0, .int .i64 0, .int .i64 0], .bool false] := by rw [← hR.out, if_neg (fun h => hl (hLg.out.symm.trans h.2))]; rfl
     have e1 : (L == l) = false := by simpa using hl
     have e2 : (L != l) = true := by simpa using hl
     go_upto_region 43 with (first
    | (with_reducible refine wpList_load_blk rfl 28 (.tmp 5) rfl g5 0 rfl B3 [.int .i64 10, .int .i64 o1, .int .i64 0, .int .i64 0, .string ⟨#[]⟩, .int .u64 0, .int .u64 0, .bool false, .bool false, .int .u64 0, .int .u64 0, .int .i64 0, .int .i64 0] rfl _ Tryz.underlying28 rfl (by kernel_rfl) ?_)
    | (go_at_call 8; (refine LN.out.mono ?_); rintro e u1 ⟨rfl, hu1⟩))
     have hbF : Below w.heap.size w u1 := below_chain hu1 (below_chain hb9 hbw2.out)
     have H2 := Blk.call (Blk.call h2.out hb9) hu1
     have z0 : u1.cell? ⟨w.heap.size, 0, none⟩ = some (.int .i64 0) := Blk.cell H2 0
     have y0 : u1.frozen? ⟨w.heap.size, 0, none⟩ = false := Blk.frozen H2 0
     have z1 : u1.cell? ⟨w.heap.size, 1, none⟩ = some (.int .i64 0) := Blk.cell H2 1
     have y1 : u1.frozen? ⟨w.heap.size, 1, none⟩ = false := Blk.frozen H2 1
     have z2 : u1.cell? ⟨w.heap.size, 2, none⟩ = some (.int .i64 0) := Blk.cell H2 2
     have y2 : u1.frozen? ⟨w.heap.size, 2, none⟩ = false := Blk.frozen H2 2
     have z3 : u1.cell? ⟨w.heap.size, 3, none⟩ = some (.int .i64 0) := Blk.cell H2 3
     have y3 : u1.frozen? ⟨w.heap.size, 3, none⟩ = false := Blk.frozen H2 3
     have z4 : u1.cell? ⟨w.heap.size, 4, none⟩ = some (.string ⟨#[]⟩) := Blk.cell H2 4
     have y4 : u1.frozen? ⟨w.heap.size, 4, none⟩ = false := Blk.frozen H2 4
     have z5 : u1.cell? ⟨w.heap.size, 5, none⟩ = some (.int .u64 0) := Blk.cell H2 5
     have y5 : u1.frozen? ⟨w.heap.size, 5, none⟩ = false := Blk.frozen H2 5
     have z6 : u1.cell? ⟨w.heap.size, 6, none⟩ = some (.int .u64 0) := Blk.cell H2 6
     have y6 : u1.frozen? ⟨w.heap.size, 6, none⟩ = false := Blk.frozen H2 6
     have z7 : u1.cell? ⟨w.heap.size, 7, none⟩ = some (.bool false) := Blk.cell H2 7
     have y7 : u1.frozen? ⟨w.heap.size, 7, none⟩ = false := Blk.frozen H2 7
     have z8 : u1.cell? ⟨w.heap.size, 8, none⟩ = some (.bool false) := Blk.cell H2 8
     have y8 : u1.frozen? ⟨w.heap.size, 8, none⟩ = false := Blk.frozen H2 8
     have z9 : u1.cell? ⟨w.heap.size, 9, none⟩ = some (.int .u64 0) := Blk.cell H2 9
     have y9 : u1.frozen? ⟨w.heap.size, 9, none⟩ = false := Blk.frozen H2 9
     have z10 : u1.cell? ⟨w.heap.size, 10, none⟩ = some (.int .u64 0) := Blk.cell H2 10
     have y10 : u1.frozen? ⟨w.heap.size, 10, none⟩ = false := Blk.frozen H2 10
     have z11 : u1.cell? ⟨w.heap.size, 11, none⟩ = some (.int .i64 0) := Blk.cell H2 11
     have y11 : u1.frozen? ⟨w.heap.size, 11, none⟩ = false := Blk.frozen H2 11
     have z12 : u1.cell? ⟨w.heap.size, 12, none⟩ = some (.int .i64 0) := Blk.cell H2 12
     have y12 : u1.frozen? ⟨w.heap.size, 12, none⟩ = false := Blk.frozen H2 12
     obtain ⟨hP, hQ⟩ := act_put H2 (.int .i64 0) (.int .i64 0) (.int .i64 0) (.int .i64 0) (.string ⟨#[]⟩) (.int .u64 0) (.int .u64 0) (.bool false) (.bool false) (.int .u64 0) (.int .u64 0) (.int .i64 0) (.int .i64 0)
     replace hP := Lib.hid hP
     replace hQ := Lib.hid hQ
     replace hbF := Lib.hid hbF
     clear H2
     go_wp2_with fail
     refine bodyPost_ret (v := .tuple #[.agg #[.int .i64 0, .int .i64 0, .int .i64 0, .int .i64 0, .string ⟨#[]⟩, .int .u64 0, .int .u64 0, .bool false, .bool false, .int .u64 0, .int .u64 0, .int .i64 0, .int .i64 0], .bool false]) (results_cell2 rfl rfl rfl (loadVar_blk 28 hP.out [.int .i64 0, .int .i64 0, .int .i64 0, .int .i64 0, .string ⟨#[]⟩, .int .u64 0, .int .u64 0, .bool false, .bool false, .int .u64 0, .int .u64 0, .int .i64 0, .int .i64 0] rfl _ Tryz.underlying28 rfl (by kernel_rfl))) rfl ?_
     exact ⟨by rw [hRv], hbF.out.trans (hQ.out.below (fun b hb h => by omega) hbF.out.size)⟩
theorem wAt_len {ws : List (List UInt8)} (h : ∀ x ∈ ws, x.length ≤ 10000) (i : Nat) : (wAt ws i).length ≤ 10000 := by
 unfold wAt
 rw [List.getD_eq_getElem?_getD]
 cases hx : ws[i]? with
 | none => simp
 | some y => exact h y (List.mem_of_getElem? hx)
theorem unhex_getD_len (al : List UInt8) (h : al.length ≤ 10000) : ((unhexL al).getD []).length ≤ 1000000 := by
 cases hu : unhexL al with
 | none => simp
 | some b => have := unhexL_len al b hu; simp; omega
theorem rs_parse (l : List UInt8) (w : World) (hL : l.length ≤ 9999) :
  Calls Tryz.prog 10 #[.string ⟨l.toArray⟩] w fun e w' => e = .returned (parseV (parseP l)) ∧ Below w.heap.size w w' := by
 rw [guess_parse]
 have hin := guess_in (parts 32 l)
 have hlen : ∀ x ∈ parts 32 l, x.length ≤ 10000 := fun x hx => by have := (parts_len 32 l).2 x hx; omega
 have l1 := wAt_len hlen 1
 have l2 := wAt_len hlen 2
 have l3 := wAt_len hlen 3
 have l4 : (wLast (parts 32 l)).length ≤ 10000 := wAt_len hlen ((parts 32 l).length - 1)
 have ls := unhex_getD_len _ l4
 obtain ⟨r1, r2⟩ := kgo_le (wAt (parts 32 l) 0) 12
 have z0 : ([] : List UInt8).length ≤ 1000000 := by simp
 obtain ⟨K, hK⟩ : ∃ K, kgo (wAt (parts 32 l) 0) 12 = K := ⟨_, rfl⟩
 rw [hK] at r1 r2
 have hg : ∀ x, guessL (parts 32 l) = x → (Calls Tryz.prog 10 #[.string ⟨l.toArray⟩] w fun e w' => e = .returned (parseV (if rightL x = true ∧ lineL x = l then some x else none)) ∧ Below w.heap.size w w') → Calls Tryz.prog 10 #[.string ⟨l.toArray⟩] w fun e w' => e = .returned (parseV (if rightL (guessL (parts 32 l)) = true ∧ lineL (guessL (parts 32 l)) = l then some (guessL (parts 32 l)) else none)) ∧ Below w.heap.size w w' := fun x e h => by rw [e]; exact h
 unfold guessL at hin hg
 simp only [hK] at hin hg
 have h12 : K = -1 ∨ K = 0 ∨ K = 1 ∨ K = 2 ∨ K = 3 ∨ K = 4 ∨ K = 5 ∨ K = 6 ∨ K = 7 ∨ K = 8 ∨ K = 9 ∨ K = 10 ∨ K = 11 := by omega
 unfold guessL
 simp only [hK]
 rcases h12 with rfl | rfl | rfl | rfl | rfl | rfl | rfl | rfl | rfl | rfl | rfl | rfl | rfl
 · exact rparsem l w hL _ rfl hK _ _ _ _ rfl rfl rfl rfl _ _ _ _ _ _ _ rfl rfl rfl rfl rfl rfl rfl hin z0 l1 l2 l3 l4
 · exact rparse0 l w hL _ rfl hK _ _ _ _ rfl rfl rfl rfl _ _ _ _ _ _ _ rfl rfl rfl rfl rfl rfl rfl hin ls l1 l2 l3 l4
 · exact rparse1 l w hL _ rfl hK _ _ _ _ rfl rfl rfl rfl _ _ _ _ _ _ _ rfl rfl rfl rfl rfl rfl rfl hin ls l1 l2 l3 l4
 · exact rparse2 l w hL _ rfl hK _ _ _ _ rfl rfl rfl rfl _ _ _ _ _ _ _ rfl rfl rfl rfl rfl rfl rfl hin z0 l1 l2 l3 l4
 · exact rparse3 l w hL _ rfl hK _ _ _ _ rfl rfl rfl rfl _ _ _ _ _ _ _ rfl rfl rfl rfl rfl rfl rfl hin z0 l1 l2 l3 l4
 · exact rparse4 l w hL _ rfl hK _ _ _ _ rfl rfl rfl rfl _ _ _ _ _ _ _ rfl rfl rfl rfl rfl rfl rfl hin z0 l1 l2 l3 l4
 · exact rparse5 l w hL _ rfl hK _ _ _ _ rfl rfl rfl rfl _ _ _ _ _ _ _ rfl rfl rfl rfl rfl rfl rfl hin z0 l1 l2 l3 l4
 · exact rparse6 l w hL _ rfl hK _ _ _ _ rfl rfl rfl rfl _ _ _ _ _ _ _ rfl rfl rfl rfl rfl rfl rfl hin z0 l1 l2 l3 l4
 · exact rparse7 l w hL _ rfl hK _ _ _ _ rfl rfl rfl rfl _ _ _ _ _ _ _ rfl rfl rfl rfl rfl rfl rfl hin z0 l1 l2 l3 l4
 · exact rparse8 l w hL _ rfl hK _ _ _ _ rfl rfl rfl rfl _ _ _ _ _ _ _ rfl rfl rfl rfl rfl rfl rfl hin z0 l1 l2 l3 l4
 · exact rparse9 l w hL _ rfl hK _ _ _ _ rfl rfl rfl rfl _ _ _ _ _ _ _ rfl rfl rfl rfl rfl rfl rfl hin z0 l1 l2 l3 l4
 · exact rparse10 l w hL _ rfl hK _ _ _ _ rfl rfl rfl rfl _ _ _ _ _ _ _ rfl rfl rfl rfl rfl rfl rfl hin z0 l1 l2 l3 l4
 · exact rparse11 l w hL _ rfl hK _ _ _ _ rfl rfl rfl rfl _ _ _ _ _ _ _ rfl rfl rfl rfl rfl rfl rfl hin z0 l1 l2 l3 l4
theorem own_call {w w' : World} {base : Nat} {e : TypeId} {m : Nat} {v : Value} {n : Nat} {xs : List Value} (h : w.ownsRow base e m v n xs) (hb : Below w.heap.size w w') : w'.ownsRow base e m v n xs :=
 ⟨h.1, h.2.imp (fun x => x) fun ⟨g, cap, cur, hv, hg, hh, hr⟩ => ⟨g, cap, cur, hv, hg, by rw [hb.block g (Array.getElem?_eq_some_iff.1 hh).1]; exact hh, hr⟩⟩
theorem Bld.call {b B : Nat} {l : List UInt8} {w w' : World} (h : Bld b B l w) (hb : Below w.heap.size w w') : Bld b B l w' := by
 obtain ⟨h1, h2, p, v, h3, h4, h5⟩ := h
 exact ⟨h1, Nat.le_trans h2 hb.size, p, v, h3, by rw [hb.block b (by omega)]; exact h4, own_call h5 hb⟩
theorem chg_FB {b B : Nat} {w0 w w' : World} (h : Chg (FB b B) w w') (hb : Below b w0 w) (hB : b < B) (hw : B ≤ w.heap.size) : Below b w0 w' :=
 below_chg hb h (fun y hy hF => by rcases hF with h | h <;> omega) (by omega)
theorem take_actsnoc (l : List ActL) {j : Nat} (h : j < l.length) : l.take (j + 1) = l.take j ++ [l.getD j (zeroL 0)] := by
 rw [List.take_add_one, List.getElem?_eq_getElem h, List.getD_eq_getElem?_getD, List.getElem?_eq_getElem h]
 rfl
theorem lines_take (l : List ActL) {j : Nat} (h : j < l.length) : linesL (l.take (j + 1)) = linesL (l.take j) ++ (lineL (l.getD j (zeroL 0)) ++ [10]) := by
 rw [take_actsnoc l h]
 unfold linesL
 rw [List.flatMap_append]
 simp
theorem all_drop (l : List ActL) (p : ActL → Bool) {j : Nat} (h : j < l.length) : (l.drop j).all p = (p (l.getD j (zeroL 0)) && (l.drop (j + 1)).all p) := by
 rw [List.drop_eq_getElem_cons h, List.all_cons, List.getD_eq_getElem?_getD, List.getElem?_eq_getElem h]
 rfl
theorem lines_short (l : List ActL) (h : ∀ x ∈ l, inL x ∧ x.s.length ≤ 10000) (j : Nat) (hr : (l.take j).all rightL = true) (hl : l.length ≤ 1000) : (linesL (l.take j)).length ≤ 200000000 := by
 have := lines_len (l := l.take j) (m := 10000) (fun x hx => ⟨List.all_eq_true.1 hr x hx, (h x (List.mem_of_mem_take hx)).1, (h x (List.mem_of_mem_take hx)).2⟩)
 have h2 : (l.take j).length ≤ 1000 := by rw [List.length_take]; omega
 have h3 : (l.take j).length * (10 * 10000 + 601) ≤ 1000 * (10 * 10000 + 601) := Nat.mul_le_mul_right _ h2
 omega
set_option maxRecDepth 100000 in
set_option maxHeartbeats 16000000 in
theorem scr_many (A : Option Addr) (c : Nat) (l : List ActL) (w : World) (h2 : 200 < l.length) (hl : l.length ≤ 1000) :
  Calls Tryz.prog 14 #[.slice A l.length c] w fun e w' => e = .returned (.tuple #[.string ⟨#[]⟩, .bool false]) ∧ Below w.heap.size w w' := by
 have g : (200 : Int) < (l.length : Int) := by omega
 go_enter Tryz.func14, Tryz.ntmps14
 go_wp2_with fail
 go_ret2
 exact ⟨rfl, Below.refl _ _⟩
set_option maxRecDepth 100000 in
set_option maxHeartbeats 16000000 in
theorem scr_few (A : Option Addr) (c : Nat) (l : List ActL) (w : World) (hw : Std w) (hrd : Reads w w.heap.size 13 A l.length (l.flatMap actC)) (hin : ∀ x ∈ l, inL x ∧ x.s.length ≤ 10000) (hl : l.length ≤ 200) (p : Bool) (hp : l.all rightL = p) :
  Calls Tryz.prog 14 #[.slice A l.length c] w fun e w' => e = .returned (.tuple #[.string ⟨(if p then linesL l else []).toArray⟩, .bool p]) ∧ Below w.heap.size w w' := by
 have g : ¬ (200 : Int) < (l.length : Int) := by omega
 obtain ⟨w1, hw1⟩ : ∃ w1, w1 = w.alloc (.cells #[.pointer none, .slice none 0 0] 84) := ⟨_, rfl⟩
 have hb1 : Below w.heap.size w w1 := hw1 ▸ below_alloc (Below.refl _ _) _
 have hs1 : w1.heap.size = w.heap.size + 1 := by rw [hw1]; simp
 have hB1 : Bld w.heap.size w1.heap.size [] w1 := by
  have h := Bld.fresh w w1.heap.size (by omega) w1 (by rw [hw1, show w.heap.size + 1 = (w.alloc (.cells #[.pointer none, .slice none 0 0] 84)).heap.size by simp]; exact Below.refl _ _) (Nat.le_refl _)
  exact h
 replace hp := Lib.hid hp
 replace hB1 := Lib.hid hB1
 replace hb1 := Lib.hid hb1
 replace hin := Lib.hid hin
 go_enter Tryz.func14, Tryz.ntmps14
 go_upto_region 4 with fail
 rw [← hw1]
 clear hw1
 go_wp2_with fail
 go_loopw [14] (fun i wr => ∃ j : Nat, j ≤ l.length ∧ i = .int .i64 (j : Nat) ∧ (l.take j).all rightL = true ∧ (l.drop j).all rightL = p ∧ Bld w.heap.size w1.heap.size (linesL (l.take j)) wr ∧ Below w.heap.size w wr) (fun i _ => l.length - (intOf i).toNat)
 case atStart => exact ⟨0, by omega, rfl, by simp, by rw [List.drop_zero]; exact hp.out, by simpa [linesL] using hB1.out, hb1.out⟩
 case round =>
  obtain ⟨j, hj, rfl, hm, hd, hBr, hbr⟩ := hrel
  have hsr := hbr.size
  by_cases hlt : j < l.length
  ·
   have hlti : (j : Int) < (l.length : Int) := by omega
   have hj0 : (0 : Int) ≤ (j : Int) := by omega
   obtain ⟨ad, rfl, c0, c1, c2, c3, c4, c5, c6, c7, c8, c9, c10, c11, c12⟩ := act_rd (hrd.below hbr) rfl hlt
   have hshort := lines_short l hin.out j hm (by omega)
   rw [all_drop l _ hlt] at hd
   have hmem : l.getD j (zeroL 0) ∈ l := by rw [List.getD_eq_getElem?_getD, List.getElem?_eq_getElem hlt]; exact List.getElem_mem hlt
   obtain ⟨hix, hsx⟩ := hin.out _ hmem
   have htk := lines_take l hlt
   have hat : (l.take (j + 1)).all rightL = ((l.take j).all rightL && rightL (l.getD j (zeroL 0))) := by
    rw [take_actsnoc l hlt, List.all_append]
    simp
   generalize l.getD j (zeroL 0) = x at *
   obtain ⟨w2, hw2⟩ : ∃ w2, w2 = wr.alloc (.cells #[.int .i64 x.k, .int .i64 x.at_, .int .i64 x.id, .int .i64 x.n, .string ⟨x.s.toArray⟩, .int .u64 ((x.a : Nat) : Int), .int .u64 ((x.b : Nat) : Int), .bool x.on, .bool x.v6, .int .u64 ((x.hi : Nat) : Int), .int .u64 ((x.lo : Nat) : Int), .int .i64 x.pk, .int .i64 x.ps] 34) := ⟨_, rfl⟩
   have hb2 : Below wr.heap.size wr w2 := hw2 ▸ below_alloc (Below.refl _ _) _
   have h2 : Blk w2 wr.heap.size 34 (actCs x) := by rw [hw2]; exact Blk.new wr 34 _
   have hbw := below_chain hb2 hbr
   have LN := scr_line x w2 (hw.below hbw) hix (by omega)
   obtain ⟨d0, d1, d2, d3, d4, d5, d6, d7, d8, d9, d10, d11, d12⟩ := act13 h2
   have hB2 := hBr.call hb2
   cases hrx : rightL x with
   | false =>
    rw [hrx] at LN hd
    have hpf : p = false := by rw [← hd]; rfl
    subst hpf
    replace LN := Lib.hid (show Calls Tryz.prog 6 #[.agg #[.int .i64 x.k, .int .i64 x.at_, .int .i64 x.id, .int .i64 x.n, .string ⟨x.s.toArray⟩, .int .u64 ((x.a : Nat) : Int), .int .u64 ((x.b : Nat) : Int), .bool x.on, .bool x.v6, .int .u64 ((x.hi : Nat) : Int), .int .u64 ((x.lo : Nat) : Int), .int .i64 x.pk, .int .i64 x.ps]] w2 fun e w' => e = .returned (.tuple #[.string ⟨#[]⟩, .bool false]) ∧ Below w2.heap.size w2 w' from LN)
    clear htk hat hd hm hrx hp hmem hBr hB2 h2
    replace hbw := Lib.hid hbw
    clear hb2
    go_upto_region 7 with fail
    rw [← hw2]
    clear hw2
    go_wp2_with (go_at_call 6; (refine LN.out.mono ?_); rintro e w3 ⟨rfl, hb3⟩)
    go_ret2
    exact ⟨rfl, below_chain hb3 hbw.out⟩
   | true =>
    rw [hrx] at LN hat hd
    have hd2 : (l.drop (j + 1)).all rightL = p := by rw [← hd]; simp
    have hm2 : (l.take (j + 1)).all rightL = true := by rw [hat, hm]; rfl
    replace LN := Lib.hid (show Calls Tryz.prog 6 #[.agg #[.int .i64 x.k, .int .i64 x.at_, .int .i64 x.id, .int .i64 x.n, .string ⟨x.s.toArray⟩, .int .u64 ((x.a : Nat) : Int), .int .u64 ((x.b : Nat) : Int), .bool x.on, .bool x.v6, .int .u64 ((x.hi : Nat) : Int), .int .u64 ((x.lo : Nat) : Int), .int .i64 x.pk, .int .i64 x.ps]] w2 fun e w' => e = .returned (.tuple #[.string ⟨(lineL x).toArray⟩, .bool true]) ∧ Below w2.heap.size w2 w' from LN)
    have hxl := line_len hrx hix
    have hcat : (ByteArray.mk (lineL x).toArray) ++ ⟨#[10]⟩ = ⟨(lineL x ++ [10]).toArray⟩ := str_append (lineL x) [10]
    have hss : ¬ 9223372036854775807 < (lineL x).length + 1 := by omega
    have hfit : (linesL (l.take j)).length + (lineL x ++ [10]).length ≤ 140737488355328 := by simp; omega
    clear hat hd hm hrx hmem hBr h2 hshort hxl hsx hix
    replace htk := Lib.hid htk
    replace hd2 := Lib.hid hd2
    replace hm2 := Lib.hid hm2
    replace hbw := Lib.hid hbw
    replace hfit := Lib.hid hfit
    replace hcat := Lib.hid hcat
    clear hb2
    generalize hLx : lineL x = lx at *
    replace hLx := Lib.hid hLx
    go_upto_region 7 with fail
    rw [← hw2]
    clear hw2
    have hcat2 := hcat.out
    go_wp2_with (first
     | (go_at_call 6; (refine LN.out.mono ?_); rintro e w3 ⟨rfl, hb3⟩; have hB3 := hB2.call hb3; have hb3w := below_chain hb3 hbw.out)
     | (go_at_call 43; (refine (bld_str w.heap.size w1.heap.size _ (lx ++ [10]) _ hB3 hfit.out).mono ?_); rintro e w4 ⟨rfl, hB4, hk4⟩; have hb4w := chg_FB hk4 hb3w hB3.1 hB3.2.1))
    go_roundw
    case rel => exact ⟨j + 1, by omega, by go_num, hm2.out, hd2.out, by rw [htk.out]; exact hB4, hb4w⟩
    case measure => simp [intOf]; omega
  ·
   have hlti : ¬ (j : Int) < (l.length : Int) := by omega
   obtain rfl : j = l.length := by omega
   rw [List.drop_length, List.all_nil] at hd
   subst hd
   rw [List.take_length] at hBr
   have T := Lib.hid (bld_text w.heap.size w1.heap.size (linesL l) wr hBr)
   clear hBr hm
   go_wp2_with (go_at_call 44; (refine T.out.mono ?_); rintro e w3 ⟨rfl, hb3⟩)
   go_ret2
   exact ⟨rfl, hbr.trans hb3⟩
theorem scr_txt (A : Option Addr) (c : Nat) (l : List ActL) (w : World) (hw : Std w) (hrd : Reads w w.heap.size 13 A l.length (l.flatMap actC)) (hin : ∀ x ∈ l, inL x ∧ x.s.length ≤ 10000) (hl : l.length ≤ 1000) :
  Calls Tryz.prog 14 #[.slice A l.length c] w fun e w' => e = .returned (.tuple #[.string ⟨(if textOk l then linesL l else []).toArray⟩, .bool (textOk l)]) ∧ Below w.heap.size w w' := by
 by_cases h2 : 200 < l.length
 ·
  have : textOk l = false := by unfold textOk; simp; omega
  rw [this]
  exact scr_many A c l w h2 hl
 ·
  have : textOk l = l.all rightL := by unfold textOk; simp; omega
  rw [this]
  exact scr_few A c l w hw hrd hin (by omega) _ rfl
def rdR (t : List UInt8) : Nat × List ActL := rdL 0 (parts 10 t) []
def rdA (t : List UInt8) : List ActL := if (rdR t).1 ≠ 0 then [] else if 200 < (rdR t).2.length then [] else (rdR t).2
def rdN (t : List UInt8) : Nat := (rdR t).1
def rdE (t : List UInt8) : Int := if (rdR t).1 ≠ 0 then 3 else if 200 < (rdR t).2.length then 9 else 0
theorem rd_drop (ps : List (List UInt8)) {j : Nat} (h : j < ps.length) (acc : List ActL) : rdL j (ps.drop j) acc = if ps.getD j [] = [] ∨ (ps.getD j []).headD 0 = 35 then rdL (j + 1) (ps.drop (j + 1)) acc else match parseP (ps.getD j []) with
  | some a => rdL (j + 1) (ps.drop (j + 1)) (acc ++ [a])
  | none => (j + 1, []) := by
 rw [List.drop_eq_getElem_cons h, List.getD_eq_getElem?_getD, List.getElem?_eq_getElem h]
 rfl
set_option maxRecDepth 100000 in
set_option maxHeartbeats 16000000 in
theorem scr_read (t : List UInt8) (w : World) (hw : Std w) (hL : t.length ≤ 900000) (hp : ∀ x ∈ parts 10 t, x.length ≤ 10000) :
  Calls Tryz.prog 17 #[.string ⟨t.toArray⟩] w fun e w' => ∃ A c, e = .returned (.tuple #[.slice A (rdA t).length c, .int .i64 (rdN t : Nat), .int .i64 (rdE t)]) ∧ OwnF w' w.heap.size A c (rdA t) ∧ Below w.heap.size w w' := by
 have S := Lib.hid (std_split t 10 w hw (by omega))
 obtain ⟨hpl, -⟩ := parts_len 10 t
 obtain ⟨R, hR⟩ : ∃ R, rdR t = R := ⟨_, rfl⟩
 have hA : rdA t = if R.1 ≠ 0 then [] else if 200 < R.2.length then [] else R.2 := by unfold rdA; rw [hR]
 have hN : rdN t = R.1 := by unfold rdN; rw [hR]
 have hE : rdE t = if R.1 ≠ 0 then 3 else if 200 < R.2.length then 9 else 0 := by unfold rdE; rw [hR]
 rw [hA, hN, hE]
 clear hA hN hE
 unfold rdR at hR
 obtain ⟨ps, hps⟩ : ∃ ps, parts 10 t = ps := ⟨_, rfl⟩
 rw [hps] at S hR hp hpl
 have hpz : ps.length ≤ 900001 := by omega
 clear hps hpl hL
 replace hp := Lib.hid hp
 replace hR := Lib.hid hR
 go_enter Tryz.func17, Tryz.ntmps17
 go_wp2_with (go_at_call 45; refine S.out.mono ?_; rintro e w2 ⟨rfl, hB2, hb2⟩)
 go_loopw [5, 13] (fun s i wr => ∃ (j : Nat) (A : Option Addr) (k : Nat) (acc : List ActL), j ≤ ps.length ∧ i = .int .i64 (j : Nat) ∧ s = .slice A acc.length k ∧ acc.length ≤ j ∧ R = rdL j (ps.drop j) acc ∧ OwnF wr w2.heap.size A k acc ∧ Below w2.heap.size w2 wr) (fun _ i _ => ps.length - (intOf i).toNat)
 case atStart => exact ⟨0, none, 0, [], by omega, rfl, rfl, by simp, by rw [List.drop_zero]; exact hR.out.symm, OwnA.nil _ _, Below.refl _ _⟩
 case round =>
  obtain ⟨j, A, k, acc, hj, rfl, rfl, hal, hrd, hO, hb⟩ := hrel
  have hBr := hB2.call hb
  have hsz := hb.size
  by_cases hlt : j < ps.length
  ·
   have hlti : (j : Int) < (ps.length : Int) := by omega
   have hj0 : (0 : Int) ≤ (j : Int) := by omega
   have c9 := blk_str hBr hlt
   rw [rd_drop ps hlt acc] at hrd
   have hxl : (ps.getD j []).length ≤ 10000 := hp.out _ (by rw [List.getD_eq_getElem?_getD, List.getElem?_eq_getElem hlt]; simp)
   have hbw : Below w.heap.size w wr := below_chain hb hb2
   obtain ⟨x, hx⟩ : ∃ x, ps.getD j [] = x := ⟨_, rfl⟩
   rw [hx] at c9 hrd hxl
   replace hx := Lib.hid hx
   clear hBr
   replace hO := Lib.hid hO
   by_cases hx0 : x = []
   ·
    subst hx0
    rw [if_pos (Or.inl rfl)] at hrd
    have hrd2 := Lib.hid hrd
    clear hrd hxl
    go_wp2_with fail
    go_roundw
    case rel => exact ⟨j + 1, A, k, acc, by omega, by go_num, rfl, by omega, hrd2.out, hO.out, hb⟩
    case measure => simp [intOf]; omega
   have e2 : x.isEmpty = false := by cases x; exact absurd rfl hx0; rfl
   have e3 : (x == ([] : List UInt8)) = false := by cases x; exact absurd rfl hx0; rfl
   have hl0 : 0 < x.length := by cases x; exact absurd rfl hx0; simp
   have hix : ∀ W, (Instr.index 9 (.string ⟨x.toArray⟩) (.int .i64 0)).run Tryz.prog W = .ok (.int .u8 ((x.headD 0).toNat : Nat)) W := fun W => by
    have h := idx_str x 0 W hl0
    rw [show x.getD 0 0 = x.headD 0 by cases x <;> rfl] at h
    exact h
   by_cases h35 : x.headD 0 = 35
   ·
    rw [if_pos (Or.inr h35)] at hrd
    have hrd2 := Lib.hid hrd
    have hbq : (((x.headD 0).toNat : Int) == 35) = true := by rw [h35]; rfl
    generalize x.headD 0 = d at *
    clear hrd hxl hx0 hl0
    replace h35 := Lib.hid h35
    go_wp2_with fail
    go_roundw
    case rel => exact ⟨j + 1, A, k, acc, by omega, by go_num, rfl, by omega, hrd2.out, hO.out, hb⟩
    case measure => simp [intOf]; omega
   ·
    rw [if_neg (fun h => by rcases h with h | h; exact hx0 h; exact h35 h)] at hrd
    have hbq : (((x.headD 0).toNat : Int) == 35) = false := by
     rw [beq_eq_false_iff_ne]
     intro e
     exact h35 (UInt8.toNat_inj.1 (by have : (35 : UInt8).toNat = 35 := rfl; omega))
    have PA := scr_parse x wr (hw.below hbw) hxl
    generalize x.headD 0 = d at *
    clear hx0 hl0
    replace h35 := Lib.hid h35
    cases hpx : parseP x with
    | none =>
     rw [hpx] at hrd PA
     have hr1 : R = (j + 1, []) := hrd
     subst hr1
     clear hrd hpx hxl
     replace PA := Lib.hid (show Calls Tryz.prog 9 #[.string ⟨x.toArray⟩] wr fun e w' => e = .returned (.tuple #[.agg #[.int .i64 0, .int .i64 0, .int .i64 0, .int .i64 0, .string ⟨#[]⟩, .int .u64 0, .int .u64 0, .bool false, .bool false, .int .u64 0, .int .u64 0, .int .i64 0, .int .i64 0], .bool false]) ∧ Below wr.heap.size wr w' from PA)
     go_wp2_with (go_at_call 9; (refine PA.out.mono ?_); rintro e w3 ⟨rfl, hb3⟩)
     go_ret3
     exact ⟨none, 0, by simp, OwnA.nil _ _, below_alloc (below_chain hb3 hbw) _⟩
    | some a =>
     rw [hpx] at hrd PA
     have hrd2 := Lib.hid (show R = rdL (j + 1) (ps.drop (j + 1)) (acc ++ [a]) from hrd)
     clear hrd hpx hxl
     replace PA := Lib.hid (show Calls Tryz.prog 9 #[.string ⟨x.toArray⟩] wr fun e w' => e = .returned (.tuple #[.agg #[.int .i64 a.k, .int .i64 a.at_, .int .i64 a.id, .int .i64 a.n, .string ⟨a.s.toArray⟩, .int .u64 ((a.a : Nat) : Int), .int .u64 ((a.b : Nat) : Int), .bool a.on, .bool a.v6, .int .u64 ((a.hi : Nat) : Int), .int .u64 ((a.lo : Nat) : Int), .int .i64 a.pk, .int .i64 a.ps], .bool true]) ∧ Below wr.heap.size wr w' from PA)
     go_upto_region 7 with (go_at_call 9; (refine PA.out.mono ?_); rintro e w3 ⟨rfl, hb3⟩)
     have K4 : Blk (w3.alloc (.cells #[.int .i64 a.k, .int .i64 a.at_, .int .i64 a.id, .int .i64 a.n, .string ⟨a.s.toArray⟩, .int .u64 ((a.a : Nat) : Int), .int .u64 ((a.b : Nat) : Int), .bool a.on, .bool a.v6, .int .u64 ((a.hi : Nat) : Int), .int .u64 ((a.lo : Nat) : Int), .int .i64 a.pk, .int .i64 a.ps] 34)) w3.heap.size 34 (actCs a) := Blk.new w3 34 _
     have hO4 := (OwnA.call hO.out hb3).alloc (.cells #[.int .i64 a.k, .int .i64 a.at_, .int .i64 a.id, .int .i64 a.n, .string ⟨a.s.toArray⟩, .int .u64 ((a.a : Nat) : Int), .int .u64 ((a.b : Nat) : Int), .bool a.on, .bool a.v6, .int .u64 ((a.hi : Nat) : Int), .int .u64 ((a.lo : Nat) : Int), .int .i64 a.pk, .int .i64 a.ps] 34)
     have hb4 := below_alloc (below_chain hb3 hb) (.cells #[.int .i64 a.k, .int .i64 a.at_, .int .i64 a.id, .int .i64 a.n, .string ⟨a.s.toArray⟩, .int .u64 ((a.a : Nat) : Int), .int .u64 ((a.b : Nat) : Int), .bool a.on, .bool a.v6, .int .u64 ((a.hi : Nat) : Int), .int .u64 ((a.lo : Nat) : Int), .int .i64 a.pk, .int .i64 a.ps] 34)
     clear c9
     generalize w3.alloc (.cells #[.int .i64 a.k, .int .i64 a.at_, .int .i64 a.id, .int .i64 a.n, .string ⟨a.s.toArray⟩, .int .u64 ((a.a : Nat) : Int), .int .u64 ((a.b : Nat) : Int), .bool a.on, .bool a.v6, .int .u64 ((a.hi : Nat) : Int), .int .u64 ((a.lo : Nat) : Int), .int .i64 a.pk, .int .i64 a.ps] 34) = w4 at *
     obtain ⟨d0, d1, d2, d3, d4, d5, d6, d7, d8, d9, d10, d11, d12⟩ := act13 K4
     have hsz4 := hb4.size
     replace hO4 := Lib.hid hO4
     clear K4
     go_wp2_with (at_builtin; refine wpList_push_act rfl (.tmp 34) (.tmp 36) rfl w2.heap.size A k acc a _ rfl rfl hO4.out _ rfl rfl rfl (by omega) hsz4 ?_; intro A2 p2 w7 ho7 hp7)
     have hS7 := hp7.below (w0 := w2) (B := w2.heap.size) hb4 hsz4 (fun b hb => (hO4.out.block hb).1)
     replace ho7 := Lib.hid ho7
     go_wp2_with fail
     go_roundw
     case rel => exact ⟨j + 1, A2, p2, acc ++ [a], by omega, by go_num, by simp, by simp; omega, hrd2.out, ho7.out, hS7⟩
     case measure => simp [intOf]; omega
  ·
   have hlti : ¬ (j : Int) < (ps.length : Int) := by omega
   obtain rfl : j = ps.length := by omega
   rw [List.drop_length] at hrd
   have hr1 : R = (0, acc) := hrd
   subst hr1
   have hbw : Below w.heap.size w wr := below_chain hb hb2
   by_cases h2 : 200 < acc.length
   ·
    have h2i : (200 : Int) < (acc.length : Int) := by omega
    clear hrd hO
    go_wp2_with fail
    go_ret3
    exact ⟨none, 0, by simp, by simpa [h2] using OwnA.nil _ _, hbw⟩
   ·
    have h2i : ¬ (200 : Int) < (acc.length : Int) := by omega
    have hO2 := Lib.hid (show OwnF wr w.heap.size A k acc from ⟨hO.1, hO.2.imp (fun x => x) fun ⟨g, cap, cur, a, b, c⟩ => ⟨g, cap, cur, a, Nat.le_trans hb2.size b, c⟩⟩)
    clear hrd hO
    go_wp2_with fail
    go_ret3
    exact ⟨A, k, by simp, by simpa [h2] using hO2.out, hbw⟩
end Go.Proofs.YtodbgjnccngljaaGreatDoor
