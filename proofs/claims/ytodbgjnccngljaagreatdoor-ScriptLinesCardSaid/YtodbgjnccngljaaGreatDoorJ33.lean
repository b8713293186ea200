/- The document's Parse at more kinds. -/
import Derived.Test.YtodbgjnccngljaaGreatDoorJ30
import Derived.Test.YtodbgjnccngljaaGreatDoorJ26
namespace Go.Proofs.YtodbgjnccngljaaGreatDoor
open Go Go.RowKit Go.Deep
set_option maxRecDepth 100000 in
set_option maxHeartbeats 64000000 in
theorem rparse2 (l : List UInt8) (w : World) (hL : l.length ≤ 9999) (ws : List (List UInt8)) (hp : parts 32 l = ws) (hk : kgo (wAt ws 0) 12 = 2) (a1 a2 a3 al : List UInt8) (h1 : wAt ws 1 = a1) (hh2 : wAt ws 2 = a2) (h3 : wAt ws 3 = a3) (hl4 : wLast ws = al)
  (o1 o2 : Int) (s : List UInt8) (is : Bool) (x2 x3 : Nat) (y : Bool × Nat × Nat) (ho1 : valL a1 = o1) (ho2 : valL a2 = o2) (hs : (unhexL al).getD [] = s) (his : (al == [111, 110]) = is) (_hx2 : wideL a2 = x2) (_hx3 : wideL a3 = x3) (hy : adrOf a2 = y)
  (hin : inL (⟨2, 0, 0, o1, [], 0, 0, false, y.1, y.2.1, y.2.2, 0, 0⟩ : ActL)) (hgs : ((⟨2, 0, 0, o1, [], 0, 0, false, y.1, y.2.1, y.2.2, 0, 0⟩ : ActL)).s.length ≤ 1000000) (g1 : a1.length ≤ 10000) (g2 : a2.length ≤ 10000) (_g3 : a3.length ≤ 10000) (g4 : al.length ≤ 10000) :
  Calls Tryz.prog 10 #[.string ⟨l.toArray⟩] w fun e w' => e = .returned (parseV (if rightL (⟨2, 0, 0, o1, [], 0, 0, false, y.1, y.2.1, y.2.2, 0, 0⟩ : ActL) = true ∧ lineL (⟨2, 0, 0, o1, [], 0, 0, false, y.1, y.2.1, y.2.2, 0, 0⟩ : ActL) = l then some (⟨2, 0, 0, o1, [], 0, 0, false, y.1, y.2.1, y.2.2, 0, 0⟩ : ActL) else none)) ∧ Below w.heap.size w w' := by
 obtain ⟨R, hR⟩ : ∃ R, parseV (if rightL (⟨2, 0, 0, o1, [], 0, 0, false, y.1, y.2.1, y.2.2, 0, 0⟩ : ActL) = true ∧ lineL (⟨2, 0, 0, o1, [], 0, 0, false, y.1, y.2.1, y.2.2, 0, 0⟩ : ActL) = l then some (⟨2, 0, 0, o1, [], 0, 0, false, y.1, y.2.1, y.2.2, 0, 0⟩ : ActL) else none) = R := ⟨_, rfl⟩
 rw [hR]
 replace hR := Lib.hid hR
 obtain ⟨w1, hw1⟩ : ∃ w1, w1 = w.alloc (.cells #[.int .i64 0, .int .i64 0, .int .i64 0, .int .i64 0, .string ⟨#[]⟩, .int .u64 0, .int .u64 0, .bool false, .bool false, .int .u64 0, .int .u64 0, .int .i64 0, .int .i64 0] 28) := ⟨_, rfl⟩
 have hb1 : Below w.heap.size w w1 := hw1 ▸ below_alloc (Below.refl _ _) _
 have h20 : Blk w1 w.heap.size 28 #[.int .i64 0, .int .i64 0, .int .i64 0, .int .i64 0, .string ⟨#[]⟩, .int .u64 0, .int .u64 0, .bool false, .bool false, .int .u64 0, .int .u64 0, .int .i64 0, .int .i64 0] := by rw [hw1]; exact Blk.new w 28 _
 have PT := ref_parts l 32 w1 (by omega)
 rw [hp] at PT
 replace PT := Lib.hid (show Calls Tryz.prog 31 #[.string ⟨l.toArray⟩, .int .u8 32] w1 _ from PT)
 have hws0 : 0 < ws.length := by rw [← hp]; obtain ⟨p, ps, e⟩ := parts_cons 32 l; rw [e]; simp
 have hwl : ws.length ≤ 10000 := by rw [← hp]; have := (parts_len 32 l).1; omega
 have hne : ws ≠ [] := by intro e; rw [e] at hws0; simp at hws0
 have VA := Lib.hid rs_value
 have WD := Lib.hid rs_words
 have V1 := Lib.hid fun W => (show Calls Tryz.prog 32 #[.string ⟨a1.toArray⟩] W fun e w' => e = .returned (.int .i64 o1) ∧ Below W.heap.size W w' from by rw [← ho1]; exact rs_value a1 W (by omega))
 have V2 := Lib.hid fun W => (show Calls Tryz.prog 32 #[.string ⟨a2.toArray⟩] W fun e w' => e = .returned (.int .i64 o2) ∧ Below W.heap.size W w' from by rw [← ho2]; exact rs_value a2 W (by omega))
 obtain ⟨q, hq⟩ : ∃ q, (unhexL al).isSome = q := ⟨_, rfl⟩
 have UN := Lib.hid fun W => (show Calls Tryz.prog 34 #[.string ⟨al.toArray⟩] W fun e w' => e = .returned (.tuple #[.string ⟨s.toArray⟩, .bool q]) ∧ Below W.heap.size W w' from by
  have h := ref_unhex al W (by omega)
  have e : unhexV al = .tuple #[.string ⟨s.toArray⟩, .bool q] := by
   rw [← hs, ← hq]
   unfold unhexV
   cases unhexL al <;> rfl
  rw [e] at h
  exact h)
 obtain ⟨qa, hqa⟩ : ∃ qa, (readA a2).isSome = qa := ⟨_, rfl⟩
 have RA := Lib.hid fun W => (show Calls Tryz.prog 36 #[.string ⟨a2.toArray⟩] W fun e w' => e = .returned (.tuple #[.agg #[.bool y.1, .int .u64 ((y.2.1 : Nat) : Int), .int .u64 ((y.2.2 : Nat) : Int)], .bool qa]) ∧ Below W.heap.size W w' from by
  have h := refaddr_read a2 W g2
  have e : adrT (readA a2) = .tuple #[.agg #[.bool y.1, .int .u64 ((y.2.1 : Nat) : Int), .int .u64 ((y.2.2 : Nat) : Int)], .bool qa] := by
   rw [← hy, ← hqa]
   unfold adrOf adrT adrV
   cases readA a2 <;> rfl
  rw [e] at h
  exact h)
 obtain ⟨w0, hw0⟩ : ∃ w0, wAt ws 0 = w0 := ⟨_, rfl⟩
 rw [hw0] at hk
 clear hp hL g1 g2 _g3 g4 ho1 ho2 hs _hx2 _hx3 hy hq
 replace hk := Lib.hid hk
 replace hb1 := Lib.hid hb1
 replace h20 := Lib.hid h20
 replace hne := Lib.hid hne
 replace hin := Lib.hid hin
 replace hgs := Lib.hid hgs
 go_enter Tryz.func10, Tryz.ntmps10
 go_upto_region 1 with fail
 rw [← hw1]
 clear hw1
 go_upto_region 2 with (go_at_call 31; (refine PT.out.mono ?_); rintro e w2 ⟨A, ck, rfl, hO2, hb2⟩)
 have hbw2 := Lib.hid (below_chain hb2 hb1.out)
 have h2 := Lib.hid (Blk.call h20.out hb2)
 obtain ⟨g, rfl, -⟩ := own_form hO2 hne.out
 go_upto_region 3 with fail
 have K3 : Blk (w2.alloc (.cells #[.int .i64 (-1), .int .i64 0, .int .i64 0, .int .i64 0, .string ⟨#[]⟩, .int .u64 0, .int .u64 0, .bool false, .bool false, .int .u64 0, .int .u64 0, .int .i64 0, .int .i64 0] 28)) w2.heap.size 28 (actCs (zeroL (-1))) := Blk.new w2 28 _
 have hb3 : Below w2.heap.size w2 (w2.alloc (.cells #[.int .i64 (-1), .int .i64 0, .int .i64 0, .int .i64 0, .string ⟨#[]⟩, .int .u64 0, .int .u64 0, .bool false, .bool false, .int .u64 0, .int .u64 0, .int .i64 0, .int .i64 0] 28)) := below_alloc (Below.refl _ _) _
 generalize w2.alloc (.cells #[.int .i64 (-1), .int .i64 0, .int .i64 0, .int .i64 0, .string ⟨#[]⟩, .int .u64 0, .int .u64 0, .bool false, .bool false, .int .u64 0, .int .u64 0, .int .i64 0, .int .i64 0] 28) = w3 at *
 obtain ⟨g5, hg5⟩ : ∃ g5, w2.heap.size = g5 := ⟨_, rfl⟩
 rw [hg5] at K3
 have hgb : w2.heap.size ≤ g5 := by omega
 rw [hg5]
 replace hg5 := Lib.hid hg5
 replace hb3 := Lib.hid hb3
 replace K3 := Lib.hid K3
 replace hO2 := Lib.hid hO2
 go_wp2_with fail
 go_loopw [6] (fun i wr => ∃ j : Nat, j ≤ 12 ∧ i = .int .i64 (j : Nat) ∧ Blk wr g5 28 (actCs (zeroL (kgo w0 j))) ∧ Below w2.heap.size w2 wr) (fun i _ => 12 - (intOf i).toNat)
 case atStart => exact ⟨0, by omega, rfl, K3.out, hb3.out⟩
 case round =>
  obtain ⟨j, hj, rfl, hBj, hb⟩ := hrel
  by_cases hlt : j < 12
  ·
   have hlti : (j : Int) < 12 := by omega
   have hj0 : (0 : Int) ≤ (j : Int) := by omega
   have hw0i : (0 : Int) < (ws.length : Int) := by omega
   have hC := Lib.hid fun W (h : Below wr.heap.size wr W) => (show W.cell? ⟨g, 0, none⟩ = some (.string ⟨w0.toArray⟩) from by
    have := own_first ((OwnA.call hO2.out hb).call h) hws0
    rw [← hw0]; exact this)
   have hkg : kgo w0 (j + 1) = if wordsL.getD j [] = w0 then (j : Int) else kgo w0 j := rfl
   obtain ⟨wd, hwd⟩ : ∃ wd, wordsL.getD j [] = wd := ⟨_, rfl⟩
   rw [hwd] at hkg
   replace hwd := Lib.hid hwd
   have hbD := (Below.refl wr.heap.size wr).drew
   go_wp2_with fail
   refine wp_region_held_drew (S := fun W => Below wr.heap.size wr W ∧ W.cell? ⟨g, 0, none⟩ = some (.string ⟨w0.toArray⟩)) (by kernel_rfl) ⟨hbD, hC.out _ hbD⟩ (fun hHeld => ?_)
   generalize wr.drew = wd0 at *
   refine' tk 1 rfl rfl ?_ ?_; rotate_left; · ((intro w hSw; (try dsimp only at hSw); go_simp) <;> with_reducible rfl); try go_frame
   refine' tk 4 rfl rfl ?_ ?_; rotate_left; · ((intro w hSw; (try dsimp only at hSw); go_simp) <;> with_reducible rfl); try go_frame
   refine' tk 5 rfl rfl ?_ ?_; rotate_left; · ((intro w hSw; (try dsimp only at hSw); go_simp) <;> with_reducible rfl); try go_frame
   refine' tk 6 rfl rfl ?_ ?_; rotate_left; · ((intro w hSw; (try dsimp only at hSw); go_simp) <;> with_reducible rfl); try go_frame
   refine wpAnyH_ready (rs := [0]) (by kernel_rfl) (by simp) ?_; refine consH rfl (fun K hK => ?_) AllReadyH.nil
   go_simp
   (go_at_call 23; (with_reducible refine (WD.out _).mono ?_))
   rintro e w4 ⟨rfl, hB4, hb4⟩
   have hbS4 := below_chain hb4 hHeld.1
   have cW : w4.cell? ⟨wd0.heap.size, j, none⟩ = some (.string ⟨wd.toArray⟩) := by have hc := blk_str hB4 (j := j) (by exact hlt); rw [hwd.out] at hc; exact hc
   refine hK.out _ _ ⟨hbS4, hC.out _ hbS4⟩ (fun hHeld4 => ?_)
   clear hK K
   try go_frame
   refine' tk 2 rfl rfl ?_ ?_; rotate_left; · ((intro w hSw; (try dsimp only at hSw); go_simp) <;> with_reducible rfl); try go_frame
   refine wpAnyH_ready (rs := [3]) (by kernel_rfl) (by simp) ?_; refine consH rfl (fun K hK => ?_) AllReadyH.nil
   go_simp
   refine hK.out _ _ hHeld4 (fun hHeld5 => ?_)
   clear hK K
   try go_frame
   have hB5 := Blk.call hBj hHeld5.1
   have hb5 := below_chain hHeld5.1 hb
   have c0 : w4.cell? ⟨g5, 0, none⟩ = some (.int .i64 (kgo w0 j)) := hB5.cell 0
   have f0 : w4.frozen? ⟨g5, 0, none⟩ = false := hB5.frozen 0
   generalize kgo w0 j = kj at *
   by_cases hyx : wd = w0
   ·
    subst hyx
    have e1 : (wd == wd) = true := by simp
    rw [if_pos rfl] at hkg
    have hBn : Blk (w4.setCell ⟨g5, 0, none⟩ (.int .i64 (j : Nat))) g5 28 (actCs (zeroL (kgo wd (j + 1)))) := by rw [hkg]; exact Blk.setAt hB5 0 (.int .i64 (j : Nat))
    have hbn : Below w2.heap.size w2 (w4.setCell ⟨g5, 0, none⟩ (.int .i64 (j : Nat))) := Below.setCell hb5 hgb _
    replace hBn := Lib.hid hBn
    replace hbn := Lib.hid hbn
    clear hkg
    refine' tk 7 rfl rfl ?_ ?_; rotate_left; · ((intro w hSw; (try dsimp only at hSw); go_simp) <;> with_reducible rfl); try go_frame
    refine wpAnyH_done (by kernel_rfl) ?_ _
    go_wp2_with fail
    go_roundw
    case rel => exact ⟨j + 1, by omega, by go_num, hBn.out, hbn.out⟩
    case measure => simp [intOf]; omega
   ·
    have e1 : (wd == w0) = false := by simpa using hyx
    rw [if_neg hyx] at hkg
    have hBn : Blk w4 g5 28 (actCs (zeroL (kgo w0 (j + 1)))) := by rw [hkg]; exact hB5
    replace hBn := Lib.hid hBn
    clear hkg
    refine' tk 7 rfl rfl ?_ ?_; rotate_left; · ((intro w hSw; (try dsimp only at hSw); go_simp) <;> with_reducible rfl); try go_frame
    refine wpAnyH_done (by kernel_rfl) ?_ _
    go_wp2_with fail
    go_roundw
    case rel => exact ⟨j + 1, by omega, by go_num, hBn.out, hb5⟩
    case measure => simp [intOf]; omega
  ·
   have hlti : ¬ (j : Int) < 12 := by omega
   obtain rfl : j = 12 := by omega
   rw [hk.out] at hBj
   have hOr := OwnA.call hO2.out hb
   have W1 := Lib.hid fun W (h : Below wr.heap.size wr W) => (show Calls Tryz.prog 33 #[.slice (some ⟨g, 0, none⟩) ws.length ck, .int .i64 1] W fun e w' => e = .returned (.string ⟨a1.toArray⟩) ∧ W = w' from by rw [← h1]; exact rs_word _ _ ws 1 _ W (OwnA.call hOr h))
   have W2 := Lib.hid fun W (h : Below wr.heap.size wr W) => (show Calls Tryz.prog 33 #[.slice (some ⟨g, 0, none⟩) ws.length ck, .int .i64 2] W fun e w' => e = .returned (.string ⟨a2.toArray⟩) ∧ W = w' from by rw [← hh2]; exact rs_word _ _ ws 2 _ W (OwnA.call hOr h))
   have W3 := Lib.hid fun W (h : Below wr.heap.size wr W) => (show Calls Tryz.prog 33 #[.slice (some ⟨g, 0, none⟩) ws.length ck, .int .i64 3] W fun e w' => e = .returned (.string ⟨a3.toArray⟩) ∧ W = w' from by rw [← h3]; exact rs_word _ _ ws 3 _ W (OwnA.call hOr h))
   have WL := Lib.hid fun W (h : Below wr.heap.size wr W) => (show Calls Tryz.prog 33 #[.slice (some ⟨g, 0, none⟩) ws.length ck, .int .i64 ((ws.length : Int) - 1)] W fun e w' => e = .returned (.string ⟨al.toArray⟩) ∧ W = w' from by
    rw [← hl4, show ((ws.length : Int) - 1) = ((ws.length - 1 : Nat) : Int) by omega]
    exact rs_word _ _ ws (ws.length - 1) _ W (OwnA.call hOr h))
   have hwi : IntKind.i64.wrap ((ws.length : Int) - 1) = (ws.length : Int) - 1 := by rw [IntKind.wrap_i64]; omega
   have hw64 : wrap64 ((ws.length : Int) - 1) = (ws.length : Int) - 1 := by unfold wrap64; omega
   have hbR : Below wr.heap.size wr wr := Below.refl _ _
   replace hb := Lib.hid hb
   replace hBj := Lib.hid (show Blk wr g5 28 #[.int .i64 2, .int .i64 0, .int .i64 0, .int .i64 0, .string ⟨#[]⟩, .int .u64 0, .int .u64 0, .bool false, .bool false, .int .u64 0, .int .u64 0, .int .i64 0, .int .i64 0] from hBj)
   replace hws0 := Lib.hid hws0
   replace hwl := Lib.hid hwl
   have hO9 := Lib.hid hOr
   have hg5n := Lib.hid (own_ne5 hO2.out hgb)
   clear hO2 hOr K3 hb3 hj WD VA PT
   go_upto_region 11 with (first
    | (go_at_call 33; (with_reducible refine (W1.out _ (by assumption)).mono ?_); rintro e w5 ⟨rfl, rfl⟩)
    | (go_at_call 33; (with_reducible refine (W2.out _ (by assumption)).mono ?_); rintro e w5 ⟨rfl, rfl⟩)
    | (go_at_call 33; (with_reducible refine (WL.out _ (by assumption)).mono ?_); rintro e w5 ⟨rfl, rfl⟩)
    | (go_at_call 32; (with_reducible refine (V1.out _).mono ?_); rintro e w6 ⟨rfl, hb6⟩; have hb6r : Below wr.heap.size wr w6 := below_chain hb6 hbR)
    | (go_at_call 32; (with_reducible refine (V2.out _).mono ?_); rintro e w7 ⟨rfl, hb7⟩; have hb7r : Below wr.heap.size wr w7 := below_chain hb7 hb6r)
    | (go_at_call 34; (with_reducible refine (UN.out _).mono ?_); rintro e w8 ⟨rfl, hb8⟩; have hb8r : Below wr.heap.size wr w8 := below_chain hb8 hb7r))
   have hB8 := Blk.call hBj.out hb8r
   have k0 : w8.cell? ⟨g5, 0, none⟩ = some (.int .i64 2) := hB8.cell 0
   clear V1 V2 UN W1 WL hb6 hb7 hb8 hb6r hb7r
   have sc3 : w8.cell? ⟨g5, 3, none⟩ = some (.int .i64 0) := Blk.cell hB8 3
   have sf3 : w8.frozen? ⟨g5, 3, none⟩ = false := Blk.frozen hB8 3
   go_upto_region 22 with fail
   have B1 : Blk (w8.setCell ⟨g5, 3, none⟩ (.int .i64 o1)) g5 28 #[.int .i64 2, .int .i64 0, .int .i64 0, .int .i64 o1, .string ⟨#[]⟩, .int .u64 0, .int .u64 0, .bool false, .bool false, .int .u64 0, .int .u64 0, .int .i64 0, .int .i64 0] := Blk.setAt hB8 3 (.int .i64 o1)
   have C1 : Chg (fun k => k = g5) w8 (w8.setCell ⟨g5, 3, none⟩ (.int .i64 o1)) := (Chg.refl (fun k => k = g5) w8).setCell (p := ⟨g5, 3, none⟩) (fun _ => rfl) _
   have k9 : Chg (fun k => k = g5) wr (w8.setCell ⟨g5, 3, none⟩ (.int .i64 o1)) := (Chg.of_below hb8r).trans C1 (fun _ _ h => h)
   clear sc3 sf3
   generalize w8.setCell ⟨g5, 3, none⟩ (.int .i64 o1) = w9 at *
   have W2b := Lib.hid (show Calls Tryz.prog 33 #[.slice (some ⟨g, 0, none⟩) ws.length ck, .int .i64 2] w9 _ from rs_wordC (i := 2) (OwnA.call hO9.out (Below.refl _ _)) k9 hg5n.out hh2)
   go_upto_region 23 with (first
    | (go_at_call 33; (with_reducible refine W2b.out.mono ?_); rintro e w10 ⟨rfl, rfl⟩)
    | (go_at_call 36; (with_reducible refine (RA.out _).mono ?_); rintro e w11 ⟨rfl, hb11⟩))
   have K12 := Blk.new w11 24 #[.bool y.1, .int .u64 ((y.2.1 : Nat) : Int), .int .u64 ((y.2.2 : Nat) : Int)]
   have hb12 := below_alloc hb11 (.cells #[.bool y.1, .int .u64 ((y.2.1 : Nat) : Int), .int .u64 ((y.2.2 : Nat) : Int)] 24)
   generalize w11.alloc (.cells #[.bool y.1, .int .u64 ((y.2.1 : Nat) : Int), .int .u64 ((y.2.2 : Nat) : Int)] 24) = w12 at *
   obtain ⟨⟨ac0, ac1, ac2⟩, -, -, -⟩ := blk3 K12
   have R12 := Blk.call B1 hb12
   have tc8 : w12.cell? ⟨g5, 8, none⟩ = some (.bool false) := Blk.cell R12 8
   have tf8 : w12.frozen? ⟨g5, 8, none⟩ = false := Blk.frozen R12 8
   have tc9 : w12.cell? ⟨g5, 9, none⟩ = some (.int .u64 0) := Blk.cell R12 9
   have tf9 : w12.frozen? ⟨g5, 9, none⟩ = false := Blk.frozen R12 9
   have tc10 : w12.cell? ⟨g5, 10, none⟩ = some (.int .u64 0) := Blk.cell R12 10
   have tf10 : w12.frozen? ⟨g5, 10, none⟩ = false := Blk.frozen R12 10
   go_upto_region 42 with fail
   have B2 : Blk (w12.setCell ⟨g5, 8, none⟩ (.bool y.1)) g5 28 #[.int .i64 2, .int .i64 0, .int .i64 0, .int .i64 o1, .string ⟨#[]⟩, .int .u64 0, .int .u64 0, .bool false, .bool y.1, .int .u64 0, .int .u64 0, .int .i64 0, .int .i64 0] := Blk.setAt R12 8 (.bool y.1)
   have C2 : Chg (fun k => k = g5) w12 (w12.setCell ⟨g5, 8, none⟩ (.bool y.1)) := (Chg.refl (fun k => k = g5) w12).setCell (p := ⟨g5, 8, none⟩) (fun _ => rfl) _
   have B3 : Blk ((w12.setCell ⟨g5, 8, none⟩ (.bool y.1)).setCell ⟨g5, 9, none⟩ (.int .u64 ((y.2.1 : Nat) : Int))) g5 28 #[.int .i64 2, .int .i64 0, .int .i64 0, .int .i64 o1, .string ⟨#[]⟩, .int .u64 0, .int .u64 0, .bool false, .bool y.1, .int .u64 ((y.2.1 : Nat) : Int), .int .u64 0, .int .i64 0, .int .i64 0] := Blk.setAt B2 9 (.int .u64 ((y.2.1 : Nat) : Int))
   have C3 : Chg (fun k => k = g5) w12 ((w12.setCell ⟨g5, 8, none⟩ (.bool y.1)).setCell ⟨g5, 9, none⟩ (.int .u64 ((y.2.1 : Nat) : Int))) := C2.setCell (p := ⟨g5, 9, none⟩) (fun _ => rfl) _
   have B4 : Blk (((w12.setCell ⟨g5, 8, none⟩ (.bool y.1)).setCell ⟨g5, 9, none⟩ (.int .u64 ((y.2.1 : Nat) : Int))).setCell ⟨g5, 10, none⟩ (.int .u64 ((y.2.2 : Nat) : Int))) g5 28 #[.int .i64 2, .int .i64 0, .int .i64 0, .int .i64 o1, .string ⟨#[]⟩, .int .u64 0, .int .u64 0, .bool false, .bool y.1, .int .u64 ((y.2.1 : Nat) : Int), .int .u64 ((y.2.2 : Nat) : Int), .int .i64 0, .int .i64 0] := Blk.setAt B3 10 (.int .u64 ((y.2.2 : Nat) : Int))
   have C4 : Chg (fun k => k = g5) w12 (((w12.setCell ⟨g5, 8, none⟩ (.bool y.1)).setCell ⟨g5, 9, none⟩ (.int .u64 ((y.2.1 : Nat) : Int))).setCell ⟨g5, 10, none⟩ (.int .u64 ((y.2.2 : Nat) : Int))) := C3.setCell (p := ⟨g5, 10, none⟩) (fun _ => rfl) _
   have k14 : Chg (fun k => k = g5) wr (((w12.setCell ⟨g5, 8, none⟩ (.bool y.1)).setCell ⟨g5, 9, none⟩ (.int .u64 ((y.2.1 : Nat) : Int))).setCell ⟨g5, 10, none⟩ (.int .u64 ((y.2.2 : Nat) : Int))) := (k9.trans (Chg.of_below hb12) (fun _ _ h => h)).trans C4 (fun _ _ h => h)
   clear tc8 tf8 tc9 tf9 tc10 tf10 ac0 ac1 ac2 K12
   generalize ((w12.setCell ⟨g5, 8, none⟩ (.bool y.1)).setCell ⟨g5, 9, none⟩ (.int .u64 ((y.2.1 : Nat) : Int))).setCell ⟨g5, 10, none⟩ (.int .u64 ((y.2.2 : Nat) : Int)) = w14 at *
   have hb9 : Below w2.heap.size w2 w14 := hb.out.trans (k14.below (fun b hb h => by omega) hb.out.size)
   have LN0 := rs_line (⟨2, 0, 0, o1, [], 0, 0, false, y.1, y.2.1, y.2.2, 0, 0⟩ : ActL) w14 hin.out hgs.out
   have e5 : g5 < w14.heap.size := Blk.lt B4
   replace e5 := Lib.hid e5
   cases hr : rightL (⟨2, 0, 0, o1, [], 0, 0, false, y.1, y.2.1, y.2.2, 0, 0⟩ : ActL) with
   | false =>
    rw [hr] at LN0
    have hRv : R = .tuple #[.agg #[.int .i64 0, .int .i64 0, .int .i64 0, .int .i64 0, .string ⟨#[]⟩, .int .u64 0, .int .u64 0, .bool false, .bool false, .int .u64 0, .int .u64 0, .int .i64 0, .int .i64 0], .bool false] := by rw [← hR.out, if_neg (fun h => by rw [hr] at h; cases h.1)]; rfl
    have LN := Lib.hid (show Calls Tryz.prog 8 #[.agg #[.int .i64 2, .int .i64 0, .int .i64 0, .int .i64 o1, .string ⟨#[]⟩, .int .u64 0, .int .u64 0, .bool false, .bool y.1, .int .u64 ((y.2.1 : Nat) : Int), .int .u64 ((y.2.2 : Nat) : Int), .int .i64 0, .int .i64 0]] w14 fun e w' => e = .returned (.tuple #[.string ⟨#[]⟩, .bool false]) ∧ Below w14.heap.size w14 w' from LN0)
    clear LN0 hr
    go_upto_region 43 with (first
    | (with_reducible refine wpList_load_blk rfl 28 (.tmp 5) rfl g5 0 rfl B4 [.int .i64 2, .int .i64 0, .int .i64 0, .int .i64 o1, .string ⟨#[]⟩, .int .u64 0, .int .u64 0, .bool false, .bool y.1, .int .u64 ((y.2.1 : Nat) : Int), .int .u64 ((y.2.2 : Nat) : Int), .int .i64 0, .int .i64 0] rfl _ Tryz.underlying28 rfl (by kernel_rfl) ?_)
    | (go_at_call 8; (refine LN.out.mono ?_); rintro e u1 ⟨rfl, hu1⟩))
    have hbF : Below w.heap.size w u1 := below_chain hu1 (below_chain hb9 hbw2.out)
    have H2 := Blk.call (Blk.call h2.out hb9) hu1
    have z0 : u1.cell? ⟨w.heap.size, 0, none⟩ = some (.int .i64 0) := Blk.cell H2 0
    have y0 : u1.frozen? ⟨w.heap.size, 0, none⟩ = false := Blk.frozen H2 0
    have z1 : u1.cell? ⟨w.heap.size, 1, none⟩ = some (.int .i64 0) := Blk.cell H2 1
    have y1 : u1.frozen? ⟨w.heap.size, 1, none⟩ = false := Blk.frozen H2 1
    have z2 : u1.cell? ⟨w.heap.size, 2, none⟩ = some (.int .i64 0) := Blk.cell H2 2
    have y2 : u1.frozen? ⟨w.heap.size, 2, none⟩ = false := Blk.frozen H2 2
    have z3 : u1.cell? ⟨w.heap.size, 3, none⟩ = some (.int .i64 0) := Blk.cell H2 3
    have y3 : u1.frozen? ⟨w.heap.size, 3, none⟩ = false := Blk.frozen H2 3
    have z4 : u1.cell? ⟨w.heap.size, 4, none⟩ = some (.string ⟨#[]⟩) := Blk.cell H2 4
    have y4 : u1.frozen? ⟨w.heap.size, 4, none⟩ = false := Blk.frozen H2 4
    have z5 : u1.cell? ⟨w.heap.size, 5, none⟩ = some (.int .u64 0) := Blk.cell H2 5
    have y5 : u1.frozen? ⟨w.heap.size, 5, none⟩ = false := Blk.frozen H2 5
    have z6 : u1.cell? ⟨w.heap.size, 6, none⟩ = some (.int .u64 0) := Blk.cell H2 6
    have y6 : u1.frozen? ⟨w.heap.size, 6, none⟩ = false := Blk.frozen H2 6
    have z7 : u1.cell? ⟨w.heap.size, 7, none⟩ = some (.bool false) := Blk.cell H2 7
    have y7 : u1.frozen? ⟨w.heap.size, 7, none⟩ = false := Blk.frozen H2 7
    have z8 : u1.cell? ⟨w.heap.size, 8, none⟩ = some (.bool false) := Blk.cell H2 8
    have y8 : u1.frozen? ⟨w.heap.size, 8, none⟩ = false := Blk.frozen H2 8
    have z9 : u1.cell? ⟨w.heap.size, 9, none⟩ = some (.int .u64 0) := Blk.cell H2 9
    have y9 : u1.frozen? ⟨w.heap.size, 9, none⟩ = false := Blk.frozen H2 9
    have z10 : u1.cell? ⟨w.heap.size, 10, none⟩ = some (.int .u64 0) := Blk.cell H2 10
    have y10 : u1.frozen? ⟨w.heap.size, 10, none⟩ = false := Blk.frozen H2 10
    have z11 : u1.cell? ⟨w.heap.size, 11, none⟩ = some (.int .i64 0) := Blk.cell H2 11
    have y11 : u1.frozen? ⟨w.heap.size, 11, none⟩ = false := Blk.frozen H2 11
    have z12 : u1.cell? ⟨w.heap.size, 12, none⟩ = some (.int .i64 0) := Blk.cell H2 12
    have y12 : u1.frozen? ⟨w.heap.size, 12, none⟩ = false := Blk.frozen H2 12
    obtain ⟨hP, hQ⟩ := act_put H2 (.int .i64 0) (.int .i64 0) (.int .i64 0) (.int .i64 0) (.string ⟨#[]⟩) (.int .u64 0) (.int .u64 0) (.bool false) (.bool false) (.int .u64 0) (.int .u64 0) (.int .i64 0) (.int .i64 0)
    replace hP := Lib.hid hP
    replace hQ := Lib.hid hQ
    replace hbF := Lib.hid hbF
    clear H2
    go_wp2_with fail
    refine bodyPost_ret (v := .tuple #[.agg #[.int .i64 0, .int .i64 0, .int .i64 0, .int .i64 0, .string ⟨#[]⟩, .int .u64 0, .int .u64 0, .bool false, .bool false, .int .u64 0, .int .u64 0, .int .i64 0, .int .i64 0], .bool false]) (results_cell2 rfl rfl rfl (loadVar_blk 28 hP.out [.int .i64 0, .int .i64 0, .int .i64 0, .int .i64 0, .string ⟨#[]⟩, .int .u64 0, .int .u64 0, .bool false, .bool false, .int .u64 0, .int .u64 0, .int .i64 0, .int .i64 0] rfl _ Tryz.underlying28 rfl (by kernel_rfl))) rfl ?_
    exact ⟨by rw [hRv], hbF.out.trans (hQ.out.below (fun b hb h => by omega) hbF.out.size)⟩
   | true =>
    rw [hr] at LN0
    obtain ⟨L, hLg⟩ : ∃ L, lineL (⟨2, 0, 0, o1, [], 0, 0, false, y.1, y.2.1, y.2.2, 0, 0⟩ : ActL) = L := ⟨_, rfl⟩
    rw [hLg] at LN0
    have LN := Lib.hid (show Calls Tryz.prog 8 #[.agg #[.int .i64 2, .int .i64 0, .int .i64 0, .int .i64 o1, .string ⟨#[]⟩, .int .u64 0, .int .u64 0, .bool false, .bool y.1, .int .u64 ((y.2.1 : Nat) : Int), .int .u64 ((y.2.2 : Nat) : Int), .int .i64 0, .int .i64 0]] w14 fun e w' => e = .returned (.tuple #[.string ⟨L.toArray⟩, .bool true]) ∧ Below w14.heap.size w14 w' from LN0)
    replace hLg := Lib.hid hLg
    replace hr := Lib.hid hr
    clear LN0
    by_cases hl : L = l
    ·
     subst hl
     have hRv : R = .tuple #[.agg #[.int .i64 2, .int .i64 0, .int .i64 0, .int .i64 o1, .string ⟨#[]⟩, .int .u64 0, .int .u64 0, .bool false, .bool y.1, .int .u64 ((y.2.1 : Nat) : Int), .int .u64 ((y.2.2 : Nat) : Int), .int .i64 0, .int .i64 0], .bool true] := by rw [← hR.out, if_pos ⟨hr.out, hLg.out⟩]; rfl
     have e1 : (L == L) = true := by simp
     have e2 : (L != L) = false := by simp
     go_upto_region 43 with (first
    | (with_reducible refine wpList_load_blk rfl 28 (.tmp 5) rfl g5 0 rfl B4 [.int .i64 2, .int .i64 0, .int .i64 0, .int .i64 o1, .string ⟨#[]⟩, .int .u64 0, .int .u64 0, .bool false, .bool y.1, .int .u64 ((y.2.1 : Nat) : Int), .int .u64 ((y.2.2 : Nat) : Int), .int .i64 0, .int .i64 0] rfl _ Tryz.underlying28 rfl (by kernel_rfl) ?_)
    | (go_at_call 8; (refine LN.out.mono ?_); rintro e u1 ⟨rfl, hu1⟩))
     have hbF : Below w.heap.size w u1 := below_chain hu1 (below_chain hb9 hbw2.out)
     have H2 := Blk.call (Blk.call h2.out hb9) hu1
     have H5 := Blk.call B4 hu1
     replace hbF := Lib.hid hbF
     go_wp2_with (first
      | (with_reducible refine wpList_load_blk rfl 28 (.tmp 5) rfl g5 0 rfl H5 [.int .i64 2, .int .i64 0, .int .i64 0, .int .i64 o1, .string ⟨#[]⟩, .int .u64 0, .int .u64 0, .bool false, .bool y.1, .int .u64 ((y.2.1 : Nat) : Int), .int .u64 ((y.2.2 : Nat) : Int), .int .i64 0, .int .i64 0] rfl _ Tryz.underlying28 rfl (by kernel_rfl) ?_)
      | (with_reducible refine wpList_store_blk rfl rfl 28 (.tmp 2) (.tmp 137) rfl w.heap.size 0 rfl H2 [.int .i64 2, .int .i64 0, .int .i64 0, .int .i64 o1, .string ⟨#[]⟩, .int .u64 0, .int .u64 0, .bool false, .bool y.1, .int .u64 ((y.2.1 : Nat) : Int), .int .u64 ((y.2.2 : Nat) : Int), .int .i64 0, .int .i64 0] rfl (Nat.le_of_ble_eq_true (by kernel_rfl)) (by kernel_rfl) rfl ?_; intro wy hBy hcy hzy))
     refine bodyPost_ret (v := .tuple #[.agg #[.int .i64 2, .int .i64 0, .int .i64 0, .int .i64 o1, .string ⟨#[]⟩, .int .u64 0, .int .u64 0, .bool false, .bool y.1, .int .u64 ((y.2.1 : Nat) : Int), .int .u64 ((y.2.2 : Nat) : Int), .int .i64 0, .int .i64 0], .bool true]) (results_cell2 rfl rfl rfl (loadVar_blk 28 hBy [.int .i64 2, .int .i64 0, .int .i64 0, .int .i64 o1, .string ⟨#[]⟩, .int .u64 0, .int .u64 0, .bool false, .bool y.1, .int .u64 ((y.2.1 : Nat) : Int), .int .u64 ((y.2.2 : Nat) : Int), .int .i64 0, .int .i64 0] rfl _ Tryz.underlying28 rfl (by kernel_rfl))) rfl ?_
     exact ⟨by rw [hRv], hbF.out.trans (hcy.below (fun b hb h => by omega) hbF.out.size)⟩
    ·
     have hRv : R = .tuple #[.agg #[.int .i64 0, .int .i64 0, .int .i64 0, .int .i64 0, .string ⟨#[]⟩, .int .u64 0, .int .u64 0, .bool false, .bool false, .int .u64 0, .int .u64 0, .int .i64 0, .int .i64 0], .bool false] := by rw [← hR.out, if_neg (fun h => hl (hLg.out.symm.trans h.2))]; rfl
     have e1 : (L == l) = false := by simpa using hl
     have e2 : (L != l) = true := by simpa using hl
     go_upto_region 43 with (first
    | (with_reducible refine wpList_load_blk rfl 28 (.tmp 5) rfl g5 0 rfl B4 [.int .i64 2, .int .i64 0, .int .i64 0, .int .i64 o1, .string ⟨#[]⟩, .int .u64 0, .int .u64 0, .bool false, .bool y.1, .int .u64 ((y.2.1 : Nat) : Int), .int .u64 ((y.2.2 : Nat) : Int), .int .i64 0, .int .i64 0] rfl _ Tryz.underlying28 rfl (by kernel_rfl) ?_)
    | (go_at_call 8; (refine LN.out.mono ?_); rintro e u1 ⟨rfl, hu1⟩))
     have hbF : Below w.heap.size w u1 := below_chain hu1 (below_chain hb9 hbw2.out)
     have H2 := Blk.call (Blk.call h2.out hb9) hu1
     have z0 : u1.cell? ⟨w.heap.size, 0, none⟩ = some (.int .i64 0) := Blk.cell H2 0
     have y0 : u1.frozen? ⟨w.heap.size, 0, none⟩ = false := Blk.frozen H2 0
     have z1 : u1.cell? ⟨w.heap.size, 1, none⟩ = some (.int .i64 0) := Blk.cell H2 1
     have y1 : u1.frozen? ⟨w.heap.size, 1, none⟩ = false := Blk.frozen H2 1
     have z2 : u1.cell? ⟨w.heap.size, 2, none⟩ = some (.int .i64 0) := Blk.cell H2 2
     have y2 : u1.frozen? ⟨w.heap.size, 2, none⟩ = false := Blk.frozen H2 2
     have z3 : u1.cell? ⟨w.heap.size, 3, none⟩ = some (.int .i64 0) := Blk.cell H2 3
     have y3 : u1.frozen? ⟨w.heap.size, 3, none⟩ = false := Blk.frozen H2 3
     have z4 : u1.cell? ⟨w.heap.size, 4, none⟩ = some (.string ⟨#[]⟩) := Blk.cell H2 4
     have y4 : u1.frozen? ⟨w.heap.size, 4, none⟩ = false := Blk.frozen H2 4
     have z5 : u1.cell? ⟨w.heap.size, 5, none⟩ = some (.int .u64 0) := Blk.cell H2 5
     have y5 : u1.frozen? ⟨w.heap.size, 5, none⟩ = false := Blk.frozen H2 5
     have z6 : u1.cell? ⟨w.heap.size, 6, none⟩ = some (.int .u64 0) := Blk.cell H2 6
     have y6 : u1.frozen? ⟨w.heap.size, 6, none⟩ = false := Blk.frozen H2 6
     have z7 : u1.cell? ⟨w.heap.size, 7, none⟩ = some (.bool false) := Blk.cell H2 7
     have y7 : u1.frozen? ⟨w.heap.size, 7, none⟩ = false := Blk.frozen H2 7
     have z8 : u1.cell? ⟨w.heap.size, 8, none⟩ = some (.bool false) := Blk.cell H2 8
     have y8 : u1.frozen? ⟨w.heap.size, 8, none⟩ = false := Blk.frozen H2 8
     have z9 : u1.cell? ⟨w.heap.size, 9, none⟩ = some (.int .u64 0) := Blk.cell H2 9
     have y9 : u1.frozen? ⟨w.heap.size, 9, none⟩ = false := Blk.frozen H2 9
     have z10 : u1.cell? ⟨w.heap.size, 10, none⟩ = some (.int .u64 0) := Blk.cell H2 10
     have y10 : u1.frozen? ⟨w.heap.size, 10, none⟩ = false := Blk.frozen H2 10
     have z11 : u1.cell? ⟨w.heap.size, 11, none⟩ = some (.int .i64 0) := Blk.cell H2 11
     have y11 : u1.frozen? ⟨w.heap.size, 11, none⟩ = false := Blk.frozen H2 11
     have z12 : u1.cell? ⟨w.heap.size, 12, none⟩ = some (.int .i64 0) := Blk.cell H2 12
     have y12 : u1.frozen? ⟨w.heap.size, 12, none⟩ = false := Blk.frozen H2 12
     obtain ⟨hP, hQ⟩ := act_put H2 (.int .i64 0) (.int .i64 0) (.int .i64 0) (.int .i64 0) (.string ⟨#[]⟩) (.int .u64 0) (.int .u64 0) (.bool false) (.bool false) (.int .u64 0) (.int .u64 0) (.int .i64 0) (.int .i64 0)
     replace hP := Lib.hid hP
     replace hQ := Lib.hid hQ
     replace hbF := Lib.hid hbF
     clear H2
     go_wp2_with fail
     refine bodyPost_ret (v := .tuple #[.agg #[.int .i64 0, .int .i64 0, .int .i64 0, .int .i64 0, .string ⟨#[]⟩, .int .u64 0, .int .u64 0, .bool false, .bool false, .int .u64 0, .int .u64 0, .int .i64 0, .int .i64 0], .bool false]) (results_cell2 rfl rfl rfl (loadVar_blk 28 hP.out [.int .i64 0, .int .i64 0, .int .i64 0, .int .i64 0, .string ⟨#[]⟩, .int .u64 0, .int .u64 0, .bool false, .bool false, .int .u64 0, .int .u64 0, .int .i64 0, .int .i64 0] rfl _ Tryz.underlying28 rfl (by kernel_rfl))) rfl ?_
     exact ⟨by rw [hRv], hbF.out.trans (hQ.out.below (fun b hb h => by omega) hbF.out.size)⟩
set_option maxRecDepth 100000 in
set_option maxHeartbeats 64000000 in
theorem rparsem (l : List UInt8) (w : World) (hL : l.length ≤ 9999) (ws : List (List UInt8)) (hp : parts 32 l = ws) (hk : kgo (wAt ws 0) 12 = (-1)) (a1 a2 a3 al : List UInt8) (h1 : wAt ws 1 = a1) (hh2 : wAt ws 2 = a2) (h3 : wAt ws 3 = a3) (hl4 : wLast ws = al)
  (o1 o2 : Int) (s : List UInt8) (is : Bool) (x2 x3 : Nat) (y : Bool × Nat × Nat) (ho1 : valL a1 = o1) (ho2 : valL a2 = o2) (hs : (unhexL al).getD [] = s) (his : (al == [111, 110]) = is) (_hx2 : wideL a2 = x2) (_hx3 : wideL a3 = x3) (_hy : adrOf a2 = y)
  (hin : inL (zeroL (-1) : ActL)) (hgs : ((zeroL (-1) : ActL)).s.length ≤ 1000000) (g1 : a1.length ≤ 10000) (g2 : a2.length ≤ 10000) (_g3 : a3.length ≤ 10000) (g4 : al.length ≤ 10000) :
  Calls Tryz.prog 10 #[.string ⟨l.toArray⟩] w fun e w' => e = .returned (parseV (if rightL (zeroL (-1) : ActL) = true ∧ lineL (zeroL (-1) : ActL) = l then some (zeroL (-1) : ActL) else none)) ∧ Below w.heap.size w w' := by
 obtain ⟨R, hR⟩ : ∃ R, parseV (if rightL (zeroL (-1) : ActL) = true ∧ lineL (zeroL (-1) : ActL) = l then some (zeroL (-1) : ActL) else none) = R := ⟨_, rfl⟩
 rw [hR]
 replace hR := Lib.hid hR
 obtain ⟨w1, hw1⟩ : ∃ w1, w1 = w.alloc (.cells #[.int .i64 0, .int .i64 0, .int .i64 0, .int .i64 0, .string ⟨#[]⟩, .int .u64 0, .int .u64 0, .bool false, .bool false, .int .u64 0, .int .u64 0, .int .i64 0, .int .i64 0] 28) := ⟨_, rfl⟩
 have hb1 : Below w.heap.size w w1 := hw1 ▸ below_alloc (Below.refl _ _) _
 have h20 : Blk w1 w.heap.size 28 #[.int .i64 0, .int .i64 0, .int .i64 0, .int .i64 0, .string ⟨#[]⟩, .int .u64 0, .int .u64 0, .bool false, .bool false, .int .u64 0, .int .u64 0, .int .i64 0, .int .i64 0] := by rw [hw1]; exact Blk.new w 28 _
 have PT := ref_parts l 32 w1 (by omega)
 rw [hp] at PT
 replace PT := Lib.hid (show Calls Tryz.prog 31 #[.string ⟨l.toArray⟩, .int .u8 32] w1 _ from PT)
 have hws0 : 0 < ws.length := by rw [← hp]; obtain ⟨p, ps, e⟩ := parts_cons 32 l; rw [e]; simp
 have hwl : ws.length ≤ 10000 := by rw [← hp]; have := (parts_len 32 l).1; omega
 have hne : ws ≠ [] := by intro e; rw [e] at hws0; simp at hws0
 have VA := Lib.hid rs_value
 have WD := Lib.hid rs_words
 have V1 := Lib.hid fun W => (show Calls Tryz.prog 32 #[.string ⟨a1.toArray⟩] W fun e w' => e = .returned (.int .i64 o1) ∧ Below W.heap.size W w' from by rw [← ho1]; exact rs_value a1 W (by omega))
 have V2 := Lib.hid fun W => (show Calls Tryz.prog 32 #[.string ⟨a2.toArray⟩] W fun e w' => e = .returned (.int .i64 o2) ∧ Below W.heap.size W w' from by rw [← ho2]; exact rs_value a2 W (by omega))
 obtain ⟨q, hq⟩ : ∃ q, (unhexL al).isSome = q := ⟨_, rfl⟩
 have UN := Lib.hid fun W => (show Calls Tryz.prog 34 #[.string ⟨al.toArray⟩] W fun e w' => e = .returned (.tuple #[.string ⟨s.toArray⟩, .bool q]) ∧ Below W.heap.size W w' from by
  have h := ref_unhex al W (by omega)
  have e : unhexV al = .tuple #[.string ⟨s.toArray⟩, .bool q] := by
   rw [← hs, ← hq]
   unfold unhexV
   cases unhexL al <;> rfl
  rw [e] at h
  exact h)
 obtain ⟨w0, hw0⟩ : ∃ w0, wAt ws 0 = w0 := ⟨_, rfl⟩
 rw [hw0] at hk
 clear hp hL g1 g2 _g3 g4 ho1 ho2 hs _hx2 _hx3 _hy hq
 replace hk := Lib.hid hk
 replace hb1 := Lib.hid hb1
 replace h20 := Lib.hid h20
 replace hne := Lib.hid hne
 replace hin := Lib.hid hin
 replace hgs := Lib.hid hgs
 go_enter Tryz.func10, Tryz.ntmps10
 go_upto_region 1 with fail
 rw [← hw1]
 clear hw1
 go_upto_region 2 with (go_at_call 31; (refine PT.out.mono ?_); rintro e w2 ⟨A, ck, rfl, hO2, hb2⟩)
 have hbw2 := Lib.hid (below_chain hb2 hb1.out)
 have h2 := Lib.hid (Blk.call h20.out hb2)
 obtain ⟨g, rfl, -⟩ := own_form hO2 hne.out
 go_upto_region 3 with fail
 have K3 : Blk (w2.alloc (.cells #[.int .i64 (-1), .int .i64 0, .int .i64 0, .int .i64 0, .string ⟨#[]⟩, .int .u64 0, .int .u64 0, .bool false, .bool false, .int .u64 0, .int .u64 0, .int .i64 0, .int .i64 0] 28)) w2.heap.size 28 (actCs (zeroL (-1))) := Blk.new w2 28 _
 have hb3 : Below w2.heap.size w2 (w2.alloc (.cells #[.int .i64 (-1), .int .i64 0, .int .i64 0, .int .i64 0, .string ⟨#[]⟩, .int .u64 0, .int .u64 0, .bool false, .bool false, .int .u64 0, .int .u64 0, .int .i64 0, .int .i64 0] 28)) := below_alloc (Below.refl _ _) _
 generalize w2.alloc (.cells #[.int .i64 (-1), .int .i64 0, .int .i64 0, .int .i64 0, .string ⟨#[]⟩, .int .u64 0, .int .u64 0, .bool false, .bool false, .int .u64 0, .int .u64 0, .int .i64 0, .int .i64 0] 28) = w3 at *
 obtain ⟨g5, hg5⟩ : ∃ g5, w2.heap.size = g5 := ⟨_, rfl⟩
 rw [hg5] at K3
 have hgb : w2.heap.size ≤ g5 := by omega
 rw [hg5]
 replace hg5 := Lib.hid hg5
 replace hb3 := Lib.hid hb3
 replace K3 := Lib.hid K3
 replace hO2 := Lib.hid hO2
 go_wp2_with fail
 go_loopw [6] (fun i wr => ∃ j : Nat, j ≤ 12 ∧ i = .int .i64 (j : Nat) ∧ Blk wr g5 28 (actCs (zeroL (kgo w0 j))) ∧ Below w2.heap.size w2 wr) (fun i _ => 12 - (intOf i).toNat)
 case atStart => exact ⟨0, by omega, rfl, K3.out, hb3.out⟩
 case round =>
  obtain ⟨j, hj, rfl, hBj, hb⟩ := hrel
  by_cases hlt : j < 12
  ·
   have hlti : (j : Int) < 12 := by omega
   have hj0 : (0 : Int) ≤ (j : Int) := by omega
   have hw0i : (0 : Int) < (ws.length : Int) := by omega
   have hC := Lib.hid fun W (h : Below wr.heap.size wr W) => (show W.cell? ⟨g, 0, none⟩ = some (.string ⟨w0.toArray⟩) from by
    have := own_first ((OwnA.call hO2.out hb).call h) hws0
    rw [← hw0]; exact this)
   have hkg : kgo w0 (j + 1) = if wordsL.getD j [] = w0 then (j : Int) else kgo w0 j := rfl
   obtain ⟨wd, hwd⟩ : ∃ wd, wordsL.getD j [] = wd := ⟨_, rfl⟩
   rw [hwd] at hkg
   replace hwd := Lib.hid hwd
   have hbD := (Below.refl wr.heap.size wr).drew
   go_wp2_with fail
   refine wp_region_held_drew (S := fun W => Below wr.heap.size wr W ∧ W.cell? ⟨g, 0, none⟩ = some (.string ⟨w0.toArray⟩)) (by kernel_rfl) ⟨hbD, hC.out _ hbD⟩ (fun hHeld => ?_)
   generalize wr.drew = wd0 at *
   refine' tk 1 rfl rfl ?_ ?_; rotate_left; · ((intro w hSw; (try dsimp only at hSw); go_simp) <;> with_reducible rfl); try go_frame
   refine' tk 4 rfl rfl ?_ ?_; rotate_left; · ((intro w hSw; (try dsimp only at hSw); go_simp) <;> with_reducible rfl); try go_frame
   refine' tk 5 rfl rfl ?_ ?_; rotate_left; · ((intro w hSw; (try dsimp only at hSw); go_simp) <;> with_reducible rfl); try go_frame
   refine' tk 6 rfl rfl ?_ ?_; rotate_left; · ((intro w hSw; (try dsimp only at hSw); go_simp) <;> with_reducible rfl); try go_frame
   refine wpAnyH_ready (rs := [0]) (by kernel_rfl) (by simp) ?_; refine consH rfl (fun K hK => ?_) AllReadyH.nil
   go_simp
   (go_at_call 23; (with_reducible refine (WD.out _).mono ?_))
   rintro e w4 ⟨rfl, hB4, hb4⟩
   have hbS4 := below_chain hb4 hHeld.1
   have cW : w4.cell? ⟨wd0.heap.size, j, none⟩ = some (.string ⟨wd.toArray⟩) := by have hc := blk_str hB4 (j := j) (by exact hlt); rw [hwd.out] at hc; exact hc
   refine hK.out _ _ ⟨hbS4, hC.out _ hbS4⟩ (fun hHeld4 => ?_)
   clear hK K
   try go_frame
   refine' tk 2 rfl rfl ?_ ?_; rotate_left; · ((intro w hSw; (try dsimp only at hSw); go_simp) <;> with_reducible rfl); try go_frame
   refine wpAnyH_ready (rs := [3]) (by kernel_rfl) (by simp) ?_; refine consH rfl (fun K hK => ?_) AllReadyH.nil
   go_simp
   refine hK.out _ _ hHeld4 (fun hHeld5 => ?_)
   clear hK K
   try go_frame
   have hB5 := Blk.call hBj hHeld5.1
   have hb5 := below_chain hHeld5.1 hb
   have c0 : w4.cell? ⟨g5, 0, none⟩ = some (.int .i64 (kgo w0 j)) := hB5.cell 0
   have f0 : w4.frozen? ⟨g5, 0, none⟩ = false := hB5.frozen 0
   generalize kgo w0 j = kj at *
   by_cases hyx : wd = w0
   ·
    subst hyx
    have e1 : (wd == wd) = true := by simp
    rw [if_pos rfl] at hkg
    have hBn : Blk (w4.setCell ⟨g5, 0, none⟩ (.int .i64 (j : Nat))) g5 28 (actCs (zeroL (kgo wd (j + 1)))) := by rw [hkg]; exact Blk.setAt hB5 0 (.int .i64 (j : Nat))
    have hbn : Below w2.heap.size w2 (w4.setCell ⟨g5, 0, none⟩ (.int .i64 (j : Nat))) := Below.setCell hb5 hgb _
    replace hBn := Lib.hid hBn
    replace hbn := Lib.hid hbn
    clear hkg
    refine' tk 7 rfl rfl ?_ ?_; rotate_left; · ((intro w hSw; (try dsimp only at hSw); go_simp) <;> with_reducible rfl); try go_frame
    refine wpAnyH_done (by kernel_rfl) ?_ _
    go_wp2_with fail
    go_roundw
    case rel => exact ⟨j + 1, by omega, by go_num, hBn.out, hbn.out⟩
    case measure => simp [intOf]; omega
   ·
    have e1 : (wd == w0) = false := by simpa using hyx
    rw [if_neg hyx] at hkg
    have hBn : Blk w4 g5 28 (actCs (zeroL (kgo w0 (j + 1)))) := by rw [hkg]; exact hB5
    replace hBn := Lib.hid hBn
    clear hkg
    refine' tk 7 rfl rfl ?_ ?_; rotate_left; · ((intro w hSw; (try dsimp only at hSw); go_simp) <;> with_reducible rfl); try go_frame
    refine wpAnyH_done (by kernel_rfl) ?_ _
    go_wp2_with fail
    go_roundw
    case rel => exact ⟨j + 1, by omega, by go_num, hBn.out, hb5⟩
    case measure => simp [intOf]; omega
  ·
   have hlti : ¬ (j : Int) < 12 := by omega
   obtain rfl : j = 12 := by omega
   rw [hk.out] at hBj
   have hOr := OwnA.call hO2.out hb
   have W1 := Lib.hid fun W (h : Below wr.heap.size wr W) => (show Calls Tryz.prog 33 #[.slice (some ⟨g, 0, none⟩) ws.length ck, .int .i64 1] W fun e w' => e = .returned (.string ⟨a1.toArray⟩) ∧ W = w' from by rw [← h1]; exact rs_word _ _ ws 1 _ W (OwnA.call hOr h))
   have W2 := Lib.hid fun W (h : Below wr.heap.size wr W) => (show Calls Tryz.prog 33 #[.slice (some ⟨g, 0, none⟩) ws.length ck, .int .i64 2] W fun e w' => e = .returned (.string ⟨a2.toArray⟩) ∧ W = w' from by rw [← hh2]; exact rs_word _ _ ws 2 _ W (OwnA.call hOr h))
   have W3 := Lib.hid fun W (h : Below wr.heap.size wr W) => (show Calls Tryz.prog 33 #[.slice (some ⟨g, 0, none⟩) ws.length ck, .int .i64 3] W fun e w' => e = .returned (.string ⟨a3.toArray⟩) ∧ W = w' from by rw [← h3]; exact rs_word _ _ ws 3 _ W (OwnA.call hOr h))
   have WL := Lib.hid fun W (h : Below wr.heap.size wr W) => (show Calls Tryz.prog 33 #[.slice (some ⟨g, 0, none⟩) ws.length ck, .int .i64 ((ws.length : Int) - 1)] W fun e w' => e = .returned (.string ⟨al.toArray⟩) ∧ W = w' from by
    rw [← hl4, show ((ws.length : Int) - 1) = ((ws.length - 1 : Nat) : Int) by omega]
    exact rs_word _ _ ws (ws.length - 1) _ W (OwnA.call hOr h))
   have hwi : IntKind.i64.wrap ((ws.length : Int) - 1) = (ws.length : Int) - 1 := by rw [IntKind.wrap_i64]; omega
   have hw64 : wrap64 ((ws.length : Int) - 1) = (ws.length : Int) - 1 := by unfold wrap64; omega
   have hbR : Below wr.heap.size wr wr := Below.refl _ _
   replace hb := Lib.hid hb
   replace hBj := Lib.hid (show Blk wr g5 28 #[.int .i64 (-1), .int .i64 0, .int .i64 0, .int .i64 0, .string ⟨#[]⟩, .int .u64 0, .int .u64 0, .bool false, .bool false, .int .u64 0, .int .u64 0, .int .i64 0, .int .i64 0] from hBj)
   replace hws0 := Lib.hid hws0
   replace hwl := Lib.hid hwl
   clear hO2 hOr K3 hb3 hj WD VA PT
   go_upto_region 11 with (first
    | (go_at_call 33; (with_reducible refine (W1.out _ (by assumption)).mono ?_); rintro e w5 ⟨rfl, rfl⟩)
    | (go_at_call 33; (with_reducible refine (W2.out _ (by assumption)).mono ?_); rintro e w5 ⟨rfl, rfl⟩)
    | (go_at_call 33; (with_reducible refine (WL.out _ (by assumption)).mono ?_); rintro e w5 ⟨rfl, rfl⟩)
    | (go_at_call 32; (with_reducible refine (V1.out _).mono ?_); rintro e w6 ⟨rfl, hb6⟩; have hb6r : Below wr.heap.size wr w6 := below_chain hb6 hbR)
    | (go_at_call 32; (with_reducible refine (V2.out _).mono ?_); rintro e w7 ⟨rfl, hb7⟩; have hb7r : Below wr.heap.size wr w7 := below_chain hb7 hb6r)
    | (go_at_call 34; (with_reducible refine (UN.out _).mono ?_); rintro e w8 ⟨rfl, hb8⟩; have hb8r : Below wr.heap.size wr w8 := below_chain hb8 hb7r))
   have hB8 := Blk.call hBj.out hb8r
   have k0 : w8.cell? ⟨g5, 0, none⟩ = some (.int .i64 (-1)) := hB8.cell 0
   clear V1 V2 UN W1 WL hb6 hb7 hb8 hb6r hb7r
   have hb9 := below_chain hb8r hb.out
   go_upto_region 42 with fail
   have LN0 := rs_line (zeroL (-1) : ActL) w8 hin.out hgs.out
   have e5 : g5 < w8.heap.size := Blk.lt hB8
   replace e5 := Lib.hid e5
   cases hr : rightL (zeroL (-1) : ActL) with
   | false =>
    rw [hr] at LN0
    have hRv : R = .tuple #[.agg #[.int .i64 0, .int .i64 0, .int .i64 0, .int .i64 0, .string ⟨#[]⟩, .int .u64 0, .int .u64 0, .bool false, .bool false, .int .u64 0, .int .u64 0, .int .i64 0, .int .i64 0], .bool false] := by rw [← hR.out, if_neg (fun h => by rw [hr] at h; cases h.1)]; rfl
    have LN := Lib.hid (show Calls Tryz.prog 8 #[.agg #[.int .i64 (-1), .int .i64 0, .int .i64 0, .int .i64 0, .string ⟨#[]⟩, .int .u64 0, .int .u64 0, .bool false, .bool false, .int .u64 0, .int .u64 0, .int .i64 0, .int .i64 0]] w8 fun e w' => e = .returned (.tuple #[.string ⟨#[]⟩, .bool false]) ∧ Below w8.heap.size w8 w' from LN0)
    clear LN0 hr
    go_upto_region 43 with (first
    | (with_reducible refine wpList_load_blk rfl 28 (.tmp 5) rfl g5 0 rfl hB8 [.int .i64 (-1), .int .i64 0, .int .i64 0, .int .i64 0, .string ⟨#[]⟩, .int .u64 0, .int .u64 0, .bool false, .bool false, .int .u64 0, .int .u64 0, .int .i64 0, .int .i64 0] rfl _ Tryz.underlying28 rfl (by kernel_rfl) ?_)
    | (go_at_call 8; (refine LN.out.mono ?_); rintro e u1 ⟨rfl, hu1⟩))
    have hbF : Below w.heap.size w u1 := below_chain hu1 (below_chain hb9 hbw2.out)
    have H2 := Blk.call (Blk.call h2.out hb9) hu1
    have z0 : u1.cell? ⟨w.heap.size, 0, none⟩ = some (.int .i64 0) := Blk.cell H2 0
    have y0 : u1.frozen? ⟨w.heap.size, 0, none⟩ = false := Blk.frozen H2 0
    have z1 : u1.cell? ⟨w.heap.size, 1, none⟩ = some (.int .i64 0) := Blk.cell H2 1
    have y1 : u1.frozen? ⟨w.heap.size, 1, none⟩ = false := Blk.frozen H2 1
    have z2 : u1.cell? ⟨w.heap.size, 2, none⟩ = some (.int .i64 0) := Blk.cell H2 2
    have y2 : u1.frozen? ⟨w.heap.size, 2, none⟩ = false := Blk.frozen H2 2
    have z3 : u1.cell? ⟨w.heap.size, 3, none⟩ = some (.int .i64 0) := Blk.cell H2 3
    have y3 : u1.frozen? ⟨w.heap.size, 3, none⟩ = false := Blk.frozen H2 3
    have z4 : u1.cell? ⟨w.heap.size, 4, none⟩ = some (.string ⟨#[]⟩) := Blk.cell H2 4
    have y4 : u1.frozen? ⟨w.heap.size, 4, none⟩ = false := Blk.frozen H2 4
    have z5 : u1.cell? ⟨w.heap.size, 5, none⟩ = some (.int .u64 0) := Blk.cell H2 5
    have y5 : u1.frozen? ⟨w.heap.size, 5, none⟩ = false := Blk.frozen H2 5
    have z6 : u1.cell? ⟨w.heap.size, 6, none⟩ = some (.int .u64 0) := Blk.cell H2 6
    have y6 : u1.frozen? ⟨w.heap.size, 6, none⟩ = false := Blk.frozen H2 6
    have z7 : u1.cell? ⟨w.heap.size, 7, none⟩ = some (.bool false) := Blk.cell H2 7
    have y7 : u1.frozen? ⟨w.heap.size, 7, none⟩ = false := Blk.frozen H2 7
    have z8 : u1.cell? ⟨w.heap.size, 8, none⟩ = some (.bool false) := Blk.cell H2 8
    have y8 : u1.frozen? ⟨w.heap.size, 8, none⟩ = false := Blk.frozen H2 8
    have z9 : u1.cell? ⟨w.heap.size, 9, none⟩ = some (.int .u64 0) := Blk.cell H2 9
    have y9 : u1.frozen? ⟨w.heap.size, 9, none⟩ = false := Blk.frozen H2 9
    have z10 : u1.cell? ⟨w.heap.size, 10, none⟩ = some (.int .u64 0) := Blk.cell H2 10
    have y10 : u1.frozen? ⟨w.heap.size, 10, none⟩ = false := Blk.frozen H2 10
    have z11 : u1.cell? ⟨w.heap.size, 11, none⟩ = some (.int .i64 0) := Blk.cell H2 11
    have y11 : u1.frozen? ⟨w.heap.size, 11, none⟩ = false := Blk.frozen H2 11
    have z12 : u1.cell? ⟨w.heap.size, 12, none⟩ = some (.int .i64 0) := Blk.cell H2 12
    have y12 : u1.frozen? ⟨w.heap.size, 12, none⟩ = false := Blk.frozen H2 12
    obtain ⟨hP, hQ⟩ := act_put H2 (.int .i64 0) (.int .i64 0) (.int .i64 0) (.int .i64 0) (.string ⟨#[]⟩) (.int .u64 0) (.int .u64 0) (.bool false) (.bool false) (.int .u64 0) (.int .u64 0) (.int .i64 0) (.int .i64 0)
    replace hP := Lib.hid hP
    replace hQ := Lib.hid hQ
    replace hbF := Lib.hid hbF
    clear H2
    go_wp2_with fail
    refine bodyPost_ret (v := .tuple #[.agg #[.int .i64 0, .int .i64 0, .int .i64 0, .int .i64 0, .string ⟨#[]⟩, .int .u64 0, .int .u64 0, .bool false, .bool false, .int .u64 0, .int .u64 0, .int .i64 0, .int .i64 0], .bool false]) (results_cell2 rfl rfl rfl (loadVar_blk 28 hP.out [.int .i64 0, .int .i64 0, .int .i64 0, .int .i64 0, .string ⟨#[]⟩, .int .u64 0, .int .u64 0, .bool false, .bool false, .int .u64 0, .int .u64 0, .int .i64 0, .int .i64 0] rfl _ Tryz.underlying28 rfl (by kernel_rfl))) rfl ?_
    exact ⟨by rw [hRv], hbF.out.trans (hQ.out.below (fun b hb h => by omega) hbF.out.size)⟩
   | true =>
    rw [hr] at LN0
    obtain ⟨L, hLg⟩ : ∃ L, lineL (zeroL (-1) : ActL) = L := ⟨_, rfl⟩
    rw [hLg] at LN0
    have LN := Lib.hid (show Calls Tryz.prog 8 #[.agg #[.int .i64 (-1), .int .i64 0, .int .i64 0, .int .i64 0, .string ⟨#[]⟩, .int .u64 0, .int .u64 0, .bool false, .bool false, .int .u64 0, .int .u64 0, .int .i64 0, .int .i64 0]] w8 fun e w' => e = .returned (.tuple #[.string ⟨L.toArray⟩, .bool true]) ∧ Below w8.heap.size w8 w' from LN0)
    replace hLg := Lib.hid hLg
    replace hr := Lib.hid hr
    clear LN0
    by_cases hl : L = l
    ·
     subst hl
     have hRv : R = .tuple #[.agg #[.int .i64 (-1), .int .i64 0, .int .i64 0, .int .i64 0, .string ⟨#[]⟩, .int .u64 0, .int .u64 0, .bool false, .bool false, .int .u64 0, .int .u64 0, .int .i64 0, .int .i64 0], .bool true] := by rw [← hR.out, if_pos ⟨hr.out, hLg.out⟩]; rfl
     have e1 : (L == L) = true := by simp
     have e2 : (L != L) = false := by simp
     go_upto_region 43 with (first
    | (with_reducible refine wpList_load_blk rfl 28 (.tmp 5) rfl g5 0 rfl hB8 [.int .i64 (-1), .int .i64 0, .int .i64 0, .int .i64 0, .string ⟨#[]⟩, .int .u64 0, .int .u64 0, .bool false, .bool false, .int .u64 0, .int .u64 0, .int .i64 0, .int .i64 0] rfl _ Tryz.underlying28 rfl (by kernel_rfl) ?_)
    | (go_at_call 8; (refine LN.out.mono ?_); rintro e u1 ⟨rfl, hu1⟩))
     have hbF : Below w.heap.size w u1 := below_chain hu1 (below_chain hb9 hbw2.out)
     have H2 := Blk.call (Blk.call h2.out hb9) hu1
     have H5 := Blk.call hB8 hu1
     replace hbF := Lib.hid hbF
     go_wp2_with (first
      | (with_reducible refine wpList_load_blk rfl 28 (.tmp 5) rfl g5 0 rfl H5 [.int .i64 (-1), .int .i64 0, .int .i64 0, .int .i64 0, .string ⟨#[]⟩, .int .u64 0, .int .u64 0, .bool false, .bool false, .int .u64 0, .int .u64 0, .int .i64 0, .int .i64 0] rfl _ Tryz.underlying28 rfl (by kernel_rfl) ?_)
      | (with_reducible refine wpList_store_blk rfl rfl 28 (.tmp 2) (.tmp 137) rfl w.heap.size 0 rfl H2 [.int .i64 (-1), .int .i64 0, .int .i64 0, .int .i64 0, .string ⟨#[]⟩, .int .u64 0, .int .u64 0, .bool false, .bool false, .int .u64 0, .int .u64 0, .int .i64 0, .int .i64 0] rfl (Nat.le_of_ble_eq_true (by kernel_rfl)) (by kernel_rfl) rfl ?_; intro wy hBy hcy hzy))
     refine bodyPost_ret (v := .tuple #[.agg #[.int .i64 (-1), .int .i64 0, .int .i64 0, .int .i64 0, .string ⟨#[]⟩, .int .u64 0, .int .u64 0, .bool false, .bool false, .int .u64 0, .int .u64 0, .int .i64 0, .int .i64 0], .bool true]) (results_cell2 rfl rfl rfl (loadVar_blk 28 hBy [.int .i64 (-1), .int .i64 0, .int .i64 0, .int .i64 0, .string ⟨#[]⟩, .int .u64 0, .int .u64 0, .bool false, .bool false, .int .u64 0, .int .u64 0, .int .i64 0, .int .i64 0] rfl _ Tryz.underlying28 rfl (by kernel_rfl))) rfl ?_
     exact ⟨by rw [hRv], hbF.out.trans (hcy.below (fun b hb h => by omega) hbF.out.size)⟩
    ·
     have hRv : R = .tuple #[.agg #[.int .i64 0, .int .i64 0, .int .i64 0, .int .i64 0, .string ⟨#[]⟩, .int .u64 0, .int .u64 0, .bool false, .bool false, .int .u64 0, .int .u64 0, .int .i64 0, .int .i64 0], .bool false] := by rw [← hR.out, if_neg (fun h => hl (hLg.out.symm.trans h.2))]; rfl
     have e1 : (L == l) = false := by simpa using hl
     have e2 : (L != l) = true := by simpa using hl
     go_upto_region 43 with (first
    | (with_reducible refine wpList_load_blk rfl 28 (.tmp 5) rfl g5 0 rfl hB8 [.int .i64 (-1), .int .i64 0, .int .i64 0, .int .i64 0, .string ⟨#[]⟩, .int .u64 0, .int .u64 0, .bool false, .bool false, .int .u64 0, .int .u64 0, .int .i64 0, .int .i64 0] rfl _ Tryz.underlying28 rfl (by kernel_rfl) ?_)
    | (go_at_call 8; (refine LN.out.mono ?_); rintro e u1 ⟨rfl, hu1⟩))
     have hbF : Below w.heap.size w u1 := below_chain hu1 (below_chain hb9 hbw2.out)
     have H2 := Blk.call (Blk.call h2.out hb9) hu1
     have z0 : u1.cell? ⟨w.heap.size, 0, none⟩ = some (.int .i64 0) := Blk.cell H2 0
     have y0 : u1.frozen? ⟨w.heap.size, 0, none⟩ = false := Blk.frozen H2 0
     have z1 : u1.cell? ⟨w.heap.size, 1, none⟩ = some (.int .i64 0) := Blk.cell H2 1
     have y1 : u1.frozen? ⟨w.heap.size, 1, none⟩ = false := Blk.frozen H2 1
     have z2 : u1.cell? ⟨w.heap.size, 2, none⟩ = some (.int .i64 0) := Blk.cell H2 2
     have y2 : u1.frozen? ⟨w.heap.size, 2, none⟩ = false := Blk.frozen H2 2
     have z3 : u1.cell? ⟨w.heap.size, 3, none⟩ = some (.int .i64 0) := Blk.cell H2 3
     have y3 : u1.frozen? ⟨w.heap.size, 3, none⟩ = false := Blk.frozen H2 3
     have z4 : u1.cell? ⟨w.heap.size, 4, none⟩ = some (.string ⟨#[]⟩) := Blk.cell H2 4
     have y4 : u1.frozen? ⟨w.heap.size, 4, none⟩ = false := Blk.frozen H2 4
     have z5 : u1.cell? ⟨w.heap.size, 5, none⟩ = some (.int .u64 0) := Blk.cell H2 5
     have y5 : u1.frozen? ⟨w.heap.size, 5, none⟩ = false := Blk.frozen H2 5
     have z6 : u1.cell? ⟨w.heap.size, 6, none⟩ = some (.int .u64 0) := Blk.cell H2 6
     have y6 : u1.frozen? ⟨w.heap.size, 6, none⟩ = false := Blk.frozen H2 6
     have z7 : u1.cell? ⟨w.heap.size, 7, none⟩ = some (.bool false) := Blk.cell H2 7
     have y7 : u1.frozen? ⟨w.heap.size, 7, none⟩ = false := Blk.frozen H2 7
     have z8 : u1.cell? ⟨w.heap.size, 8, none⟩ = some (.bool false) := Blk.cell H2 8
     have y8 : u1.frozen? ⟨w.heap.size, 8, none⟩ = false := Blk.frozen H2 8
     have z9 : u1.cell? ⟨w.heap.size, 9, none⟩ = some (.int .u64 0) := Blk.cell H2 9
     have y9 : u1.frozen? ⟨w.heap.size, 9, none⟩ = false := Blk.frozen H2 9
     have z10 : u1.cell? ⟨w.heap.size, 10, none⟩ = some (.int .u64 0) := Blk.cell H2 10
     have y10 : u1.frozen? ⟨w.heap.size, 10, none⟩ = false := Blk.frozen H2 10
     have z11 : u1.cell? ⟨w.heap.size, 11, none⟩ = some (.int .i64 0) := Blk.cell H2 11
     have y11 : u1.frozen? ⟨w.heap.size, 11, none⟩ = false := Blk.frozen H2 11
     have z12 : u1.cell? ⟨w.heap.size, 12, none⟩ = some (.int .i64 0) := Blk.cell H2 12
     have y12 : u1.frozen? ⟨w.heap.size, 12, none⟩ = false := Blk.frozen H2 12
     obtain ⟨hP, hQ⟩ := act_put H2 (.int .i64 0) (.int .i64 0) (.int .i64 0) (.int .i64 0) (.string ⟨#[]⟩) (.int .u64 0) (.int .u64 0) (.bool false) (.bool false) (.int .u64 0) (.int .u64 0) (.int .i64 0) (.int .i64 0)
     replace hP := Lib.hid hP
     replace hQ := Lib.hid hQ
     replace hbF := Lib.hid hbF
     clear H2
     go_wp2_with fail
     refine bodyPost_ret (v := .tuple #[.agg #[.int .i64 0, .int .i64 0, .int .i64 0, .int .i64 0, .string ⟨#[]⟩, .int .u64 0, .int .u64 0, .bool false, .bool false, .int .u64 0, .int .u64 0, .int .i64 0, .int .i64 0], .bool false]) (results_cell2 rfl rfl rfl (loadVar_blk 28 hP.out [.int .i64 0, .int .i64 0, .int .i64 0, .int .i64 0, .string ⟨#[]⟩, .int .u64 0, .int .u64 0, .bool false, .bool false, .int .u64 0, .int .u64 0, .int .i64 0, .int .i64 0] rfl _ Tryz.underlying28 rfl (by kernel_rfl))) rfl ?_
     exact ⟨by rw [hRv], hbF.out.trans (hQ.out.below (fun b hb h => by omega) hbF.out.size)⟩
set_option maxRecDepth 100000 in
set_option maxHeartbeats 64000000 in
theorem rparse8 (l : List UInt8) (w : World) (hL : l.length ≤ 9999) (ws : List (List UInt8)) (hp : parts 32 l = ws) (hk : kgo (wAt ws 0) 12 = 8) (a1 a2 a3 al : List UInt8) (h1 : wAt ws 1 = a1) (hh2 : wAt ws 2 = a2) (h3 : wAt ws 3 = a3) (hl4 : wLast ws = al)
  (o1 o2 : Int) (s : List UInt8) (is : Bool) (x2 x3 : Nat) (y : Bool × Nat × Nat) (ho1 : valL a1 = o1) (ho2 : valL a2 = o2) (hs : (unhexL al).getD [] = s) (his : (al == [111, 110]) = is) (_hx2 : wideL a2 = x2) (_hx3 : wideL a3 = x3) (_hy : adrOf a2 = y)
  (hin : inL (⟨8, 0, 0, 0, [], 0, 0, is, false, 0, 0, 0, 0⟩ : ActL)) (hgs : ((⟨8, 0, 0, 0, [], 0, 0, is, false, 0, 0, 0, 0⟩ : ActL)).s.length ≤ 1000000) (g1 : a1.length ≤ 10000) (g2 : a2.length ≤ 10000) (_g3 : a3.length ≤ 10000) (g4 : al.length ≤ 10000) :
  Calls Tryz.prog 10 #[.string ⟨l.toArray⟩] w fun e w' => e = .returned (parseV (if rightL (⟨8, 0, 0, 0, [], 0, 0, is, false, 0, 0, 0, 0⟩ : ActL) = true ∧ lineL (⟨8, 0, 0, 0, [], 0, 0, is, false, 0, 0, 0, 0⟩ : ActL) = l then some (⟨8, 0, 0, 0, [], 0, 0, is, false, 0, 0, 0, 0⟩ : ActL) else none)) ∧ Below w.heap.size w w' := by
 obtain ⟨R, hR⟩ : ∃ R, parseV (if rightL (⟨8, 0, 0, 0, [], 0, 0, is, false, 0, 0, 0, 0⟩ : ActL) = true ∧ lineL (⟨8, 0, 0, 0, [], 0, 0, is, false, 0, 0, 0, 0⟩ : ActL) = l then some (⟨8, 0, 0, 0, [], 0, 0, is, false, 0, 0, 0, 0⟩ : ActL) else none) = R := ⟨_, rfl⟩
 rw [hR]
 replace hR := Lib.hid hR
 obtain ⟨w1, hw1⟩ : ∃ w1, w1 = w.alloc (.cells #[.int .i64 0, .int .i64 0, .int .i64 0, .int .i64 0, .string ⟨#[]⟩, .int .u64 0, .int .u64 0, .bool false, .bool false, .int .u64 0, .int .u64 0, .int .i64 0, .int .i64 0] 28) := ⟨_, rfl⟩
 have hb1 : Below w.heap.size w w1 := hw1 ▸ below_alloc (Below.refl _ _) _
 have h20 : Blk w1 w.heap.size 28 #[.int .i64 0, .int .i64 0, .int .i64 0, .int .i64 0, .string ⟨#[]⟩, .int .u64 0, .int .u64 0, .bool false, .bool false, .int .u64 0, .int .u64 0, .int .i64 0, .int .i64 0] := by rw [hw1]; exact Blk.new w 28 _
 have PT := ref_parts l 32 w1 (by omega)
 rw [hp] at PT
 replace PT := Lib.hid (show Calls Tryz.prog 31 #[.string ⟨l.toArray⟩, .int .u8 32] w1 _ from PT)
 have hws0 : 0 < ws.length := by rw [← hp]; obtain ⟨p, ps, e⟩ := parts_cons 32 l; rw [e]; simp
 have hwl : ws.length ≤ 10000 := by rw [← hp]; have := (parts_len 32 l).1; omega
 have hne : ws ≠ [] := by intro e; rw [e] at hws0; simp at hws0
 have VA := Lib.hid rs_value
 have WD := Lib.hid rs_words
 have V1 := Lib.hid fun W => (show Calls Tryz.prog 32 #[.string ⟨a1.toArray⟩] W fun e w' => e = .returned (.int .i64 o1) ∧ Below W.heap.size W w' from by rw [← ho1]; exact rs_value a1 W (by omega))
 have V2 := Lib.hid fun W => (show Calls Tryz.prog 32 #[.string ⟨a2.toArray⟩] W fun e w' => e = .returned (.int .i64 o2) ∧ Below W.heap.size W w' from by rw [← ho2]; exact rs_value a2 W (by omega))
 obtain ⟨q, hq⟩ : ∃ q, (unhexL al).isSome = q := ⟨_, rfl⟩
 have UN := Lib.hid fun W => (show Calls Tryz.prog 34 #[.string ⟨al.toArray⟩] W fun e w' => e = .returned (.tuple #[.string ⟨s.toArray⟩, .bool q]) ∧ Below W.heap.size W w' from by
  have h := ref_unhex al W (by omega)
  have e : unhexV al = .tuple #[.string ⟨s.toArray⟩, .bool q] := by
   rw [← hs, ← hq]
   unfold unhexV
   cases unhexL al <;> rfl
  rw [e] at h
  exact h)
 obtain ⟨w0, hw0⟩ : ∃ w0, wAt ws 0 = w0 := ⟨_, rfl⟩
 rw [hw0] at hk
 clear hp hL g1 g2 _g3 g4 ho1 ho2 hs _hx2 _hx3 _hy hq
 replace hk := Lib.hid hk
 replace hb1 := Lib.hid hb1
 replace h20 := Lib.hid h20
 replace hne := Lib.hid hne
 replace hin := Lib.hid hin
 replace hgs := Lib.hid hgs
 go_enter Tryz.func10, Tryz.ntmps10
 go_upto_region 1 with fail
 rw [← hw1]
 clear hw1
 go_upto_region 2 with (go_at_call 31; (refine PT.out.mono ?_); rintro e w2 ⟨A, ck, rfl, hO2, hb2⟩)
 have hbw2 := Lib.hid (below_chain hb2 hb1.out)
 have h2 := Lib.hid (Blk.call h20.out hb2)
 obtain ⟨g, rfl, -⟩ := own_form hO2 hne.out
 go_upto_region 3 with fail
 have K3 : Blk (w2.alloc (.cells #[.int .i64 (-1), .int .i64 0, .int .i64 0, .int .i64 0, .string ⟨#[]⟩, .int .u64 0, .int .u64 0, .bool false, .bool false, .int .u64 0, .int .u64 0, .int .i64 0, .int .i64 0] 28)) w2.heap.size 28 (actCs (zeroL (-1))) := Blk.new w2 28 _
 have hb3 : Below w2.heap.size w2 (w2.alloc (.cells #[.int .i64 (-1), .int .i64 0, .int .i64 0, .int .i64 0, .string ⟨#[]⟩, .int .u64 0, .int .u64 0, .bool false, .bool false, .int .u64 0, .int .u64 0, .int .i64 0, .int .i64 0] 28)) := below_alloc (Below.refl _ _) _
 generalize w2.alloc (.cells #[.int .i64 (-1), .int .i64 0, .int .i64 0, .int .i64 0, .string ⟨#[]⟩, .int .u64 0, .int .u64 0, .bool false, .bool false, .int .u64 0, .int .u64 0, .int .i64 0, .int .i64 0] 28) = w3 at *
 obtain ⟨g5, hg5⟩ : ∃ g5, w2.heap.size = g5 := ⟨_, rfl⟩
 rw [hg5] at K3
 have hgb : w2.heap.size ≤ g5 := by omega
 rw [hg5]
 replace hg5 := Lib.hid hg5
 replace hb3 := Lib.hid hb3
 replace K3 := Lib.hid K3
 replace hO2 := Lib.hid hO2
 go_wp2_with fail
 go_loopw [6] (fun i wr => ∃ j : Nat, j ≤ 12 ∧ i = .int .i64 (j : Nat) ∧ Blk wr g5 28 (actCs (zeroL (kgo w0 j))) ∧ Below w2.heap.size w2 wr) (fun i _ => 12 - (intOf i).toNat)
 case atStart => exact ⟨0, by omega, rfl, K3.out, hb3.out⟩
 case round =>
  obtain ⟨j, hj, rfl, hBj, hb⟩ := hrel
  by_cases hlt : j < 12
  ·
   have hlti : (j : Int) < 12 := by omega
   have hj0 : (0 : Int) ≤ (j : Int) := by omega
   have hw0i : (0 : Int) < (ws.length : Int) := by omega
   have hC := Lib.hid fun W (h : Below wr.heap.size wr W) => (show W.cell? ⟨g, 0, none⟩ = some (.string ⟨w0.toArray⟩) from by
    have := own_first ((OwnA.call hO2.out hb).call h) hws0
    rw [← hw0]; exact this)
   have hkg : kgo w0 (j + 1) = if wordsL.getD j [] = w0 then (j : Int) else kgo w0 j := rfl
   obtain ⟨wd, hwd⟩ : ∃ wd, wordsL.getD j [] = wd := ⟨_, rfl⟩
   rw [hwd] at hkg
   replace hwd := Lib.hid hwd
   have hbD := (Below.refl wr.heap.size wr).drew
   go_wp2_with fail
   refine wp_region_held_drew (S := fun W => Below wr.heap.size wr W ∧ W.cell? ⟨g, 0, none⟩ = some (.string ⟨w0.toArray⟩)) (by kernel_rfl) ⟨hbD, hC.out _ hbD⟩ (fun hHeld => ?_)
   generalize wr.drew = wd0 at *
   refine' tk 1 rfl rfl ?_ ?_; rotate_left; · ((intro w hSw; (try dsimp only at hSw); go_simp) <;> with_reducible rfl); try go_frame
   refine' tk 4 rfl rfl ?_ ?_; rotate_left; · ((intro w hSw; (try dsimp only at hSw); go_simp) <;> with_reducible rfl); try go_frame
   refine' tk 5 rfl rfl ?_ ?_; rotate_left; · ((intro w hSw; (try dsimp only at hSw); go_simp) <;> with_reducible rfl); try go_frame
   refine' tk 6 rfl rfl ?_ ?_; rotate_left; · ((intro w hSw; (try dsimp only at hSw); go_simp) <;> with_reducible rfl); try go_frame
   refine wpAnyH_ready (rs := [0]) (by kernel_rfl) (by simp) ?_; refine consH rfl (fun K hK => ?_) AllReadyH.nil
   go_simp
   (go_at_call 23; (with_reducible refine (WD.out _).mono ?_))
   rintro e w4 ⟨rfl, hB4, hb4⟩
   have hbS4 := below_chain hb4 hHeld.1
   have cW : w4.cell? ⟨wd0.heap.size, j, none⟩ = some (.string ⟨wd.toArray⟩) := by have hc := blk_str hB4 (j := j) (by exact hlt); rw [hwd.out] at hc; exact hc
   refine hK.out _ _ ⟨hbS4, hC.out _ hbS4⟩ (fun hHeld4 => ?_)
   clear hK K
   try go_frame
   refine' tk 2 rfl rfl ?_ ?_; rotate_left; · ((intro w hSw; (try dsimp only at hSw); go_simp) <;> with_reducible rfl); try go_frame
   refine wpAnyH_ready (rs := [3]) (by kernel_rfl) (by simp) ?_; refine consH rfl (fun K hK => ?_) AllReadyH.nil
   go_simp
   refine hK.out _ _ hHeld4 (fun hHeld5 => ?_)
   clear hK K
   try go_frame
   have hB5 := Blk.call hBj hHeld5.1
   have hb5 := below_chain hHeld5.1 hb
   have c0 : w4.cell? ⟨g5, 0, none⟩ = some (.int .i64 (kgo w0 j)) := hB5.cell 0
   have f0 : w4.frozen? ⟨g5, 0, none⟩ = false := hB5.frozen 0
   generalize kgo w0 j = kj at *
   by_cases hyx : wd = w0
   ·
    subst hyx
    have e1 : (wd == wd) = true := by simp
    rw [if_pos rfl] at hkg
    have hBn : Blk (w4.setCell ⟨g5, 0, none⟩ (.int .i64 (j : Nat))) g5 28 (actCs (zeroL (kgo wd (j + 1)))) := by rw [hkg]; exact Blk.setAt hB5 0 (.int .i64 (j : Nat))
    have hbn : Below w2.heap.size w2 (w4.setCell ⟨g5, 0, none⟩ (.int .i64 (j : Nat))) := Below.setCell hb5 hgb _
    replace hBn := Lib.hid hBn
    replace hbn := Lib.hid hbn
    clear hkg
    refine' tk 7 rfl rfl ?_ ?_; rotate_left; · ((intro w hSw; (try dsimp only at hSw); go_simp) <;> with_reducible rfl); try go_frame
    refine wpAnyH_done (by kernel_rfl) ?_ _
    go_wp2_with fail
    go_roundw
    case rel => exact ⟨j + 1, by omega, by go_num, hBn.out, hbn.out⟩
    case measure => simp [intOf]; omega
   ·
    have e1 : (wd == w0) = false := by simpa using hyx
    rw [if_neg hyx] at hkg
    have hBn : Blk w4 g5 28 (actCs (zeroL (kgo w0 (j + 1)))) := by rw [hkg]; exact hB5
    replace hBn := Lib.hid hBn
    clear hkg
    refine' tk 7 rfl rfl ?_ ?_; rotate_left; · ((intro w hSw; (try dsimp only at hSw); go_simp) <;> with_reducible rfl); try go_frame
    refine wpAnyH_done (by kernel_rfl) ?_ _
    go_wp2_with fail
    go_roundw
    case rel => exact ⟨j + 1, by omega, by go_num, hBn.out, hb5⟩
    case measure => simp [intOf]; omega
  ·
   have hlti : ¬ (j : Int) < 12 := by omega
   obtain rfl : j = 12 := by omega
   rw [hk.out] at hBj
   have hOr := OwnA.call hO2.out hb
   have W1 := Lib.hid fun W (h : Below wr.heap.size wr W) => (show Calls Tryz.prog 33 #[.slice (some ⟨g, 0, none⟩) ws.length ck, .int .i64 1] W fun e w' => e = .returned (.string ⟨a1.toArray⟩) ∧ W = w' from by rw [← h1]; exact rs_word _ _ ws 1 _ W (OwnA.call hOr h))
   have W2 := Lib.hid fun W (h : Below wr.heap.size wr W) => (show Calls Tryz.prog 33 #[.slice (some ⟨g, 0, none⟩) ws.length ck, .int .i64 2] W fun e w' => e = .returned (.string ⟨a2.toArray⟩) ∧ W = w' from by rw [← hh2]; exact rs_word _ _ ws 2 _ W (OwnA.call hOr h))
   have W3 := Lib.hid fun W (h : Below wr.heap.size wr W) => (show Calls Tryz.prog 33 #[.slice (some ⟨g, 0, none⟩) ws.length ck, .int .i64 3] W fun e w' => e = .returned (.string ⟨a3.toArray⟩) ∧ W = w' from by rw [← h3]; exact rs_word _ _ ws 3 _ W (OwnA.call hOr h))
   have WL := Lib.hid fun W (h : Below wr.heap.size wr W) => (show Calls Tryz.prog 33 #[.slice (some ⟨g, 0, none⟩) ws.length ck, .int .i64 ((ws.length : Int) - 1)] W fun e w' => e = .returned (.string ⟨al.toArray⟩) ∧ W = w' from by
    rw [← hl4, show ((ws.length : Int) - 1) = ((ws.length - 1 : Nat) : Int) by omega]
    exact rs_word _ _ ws (ws.length - 1) _ W (OwnA.call hOr h))
   have hwi : IntKind.i64.wrap ((ws.length : Int) - 1) = (ws.length : Int) - 1 := by rw [IntKind.wrap_i64]; omega
   have hw64 : wrap64 ((ws.length : Int) - 1) = (ws.length : Int) - 1 := by unfold wrap64; omega
   have hbR : Below wr.heap.size wr wr := Below.refl _ _
   replace hb := Lib.hid hb
   replace hBj := Lib.hid (show Blk wr g5 28 #[.int .i64 8, .int .i64 0, .int .i64 0, .int .i64 0, .string ⟨#[]⟩, .int .u64 0, .int .u64 0, .bool false, .bool false, .int .u64 0, .int .u64 0, .int .i64 0, .int .i64 0] from hBj)
   replace hws0 := Lib.hid hws0
   replace hwl := Lib.hid hwl
   clear hO2 hOr K3 hb3 hj WD VA PT
   go_upto_region 11 with (first
    | (go_at_call 33; (with_reducible refine (W1.out _ (by assumption)).mono ?_); rintro e w5 ⟨rfl, rfl⟩)
    | (go_at_call 33; (with_reducible refine (W2.out _ (by assumption)).mono ?_); rintro e w5 ⟨rfl, rfl⟩)
    | (go_at_call 33; (with_reducible refine (WL.out _ (by assumption)).mono ?_); rintro e w5 ⟨rfl, rfl⟩)
    | (go_at_call 32; (with_reducible refine (V1.out _).mono ?_); rintro e w6 ⟨rfl, hb6⟩; have hb6r : Below wr.heap.size wr w6 := below_chain hb6 hbR)
    | (go_at_call 32; (with_reducible refine (V2.out _).mono ?_); rintro e w7 ⟨rfl, hb7⟩; have hb7r : Below wr.heap.size wr w7 := below_chain hb7 hb6r)
    | (go_at_call 34; (with_reducible refine (UN.out _).mono ?_); rintro e w8 ⟨rfl, hb8⟩; have hb8r : Below wr.heap.size wr w8 := below_chain hb8 hb7r))
   have hB8 := Blk.call hBj.out hb8r
   have k0 : w8.cell? ⟨g5, 0, none⟩ = some (.int .i64 8) := hB8.cell 0
   clear V1 V2 UN W1 WL hb6 hb7 hb8 hb6r hb7r
   have sc7 : w8.cell? ⟨g5, 7, none⟩ = some (.bool false) := Blk.cell hB8 7
   have sf7 : w8.frozen? ⟨g5, 7, none⟩ = false := Blk.frozen hB8 7
   go_upto_region 42 with fail
   have B5 : Blk (w8.setCell ⟨g5, 7, none⟩ (.bool is)) g5 28 #[.int .i64 8, .int .i64 0, .int .i64 0, .int .i64 0, .string ⟨#[]⟩, .int .u64 0, .int .u64 0, .bool is, .bool false, .int .u64 0, .int .u64 0, .int .i64 0, .int .i64 0] := Blk.setAt hB8 7 (.bool is)
   have C5 : Chg (fun k => k = g5) w8 (w8.setCell ⟨g5, 7, none⟩ (.bool is)) := (Chg.refl (fun k => k = g5) w8).setCell (p := ⟨g5, 7, none⟩) (fun _ => rfl) _
   have hb9 : Below w2.heap.size w2 (w8.setCell ⟨g5, 7, none⟩ (.bool is)) := (below_chain hb8r hb.out).trans (C5.below (fun b hb h => by omega) (below_chain hb8r hb.out).size)
   clear sc7 sf7
   generalize w8.setCell ⟨g5, 7, none⟩ (.bool is) = w9 at *
   have LN0 := rs_line (⟨8, 0, 0, 0, [], 0, 0, is, false, 0, 0, 0, 0⟩ : ActL) w9 hin.out hgs.out
   have e5 : g5 < w9.heap.size := Blk.lt B5
   replace e5 := Lib.hid e5
   cases hr : rightL (⟨8, 0, 0, 0, [], 0, 0, is, false, 0, 0, 0, 0⟩ : ActL) with
   | false =>
    rw [hr] at LN0
    have hRv : R = .tuple #[.agg #[.int .i64 0, .int .i64 0, .int .i64 0, .int .i64 0, .string ⟨#[]⟩, .int .u64 0, .int .u64 0, .bool false, .bool false, .int .u64 0, .int .u64 0, .int .i64 0, .int .i64 0], .bool false] := by rw [← hR.out, if_neg (fun h => by rw [hr] at h; cases h.1)]; rfl
    have LN := Lib.hid (show Calls Tryz.prog 8 #[.agg #[.int .i64 8, .int .i64 0, .int .i64 0, .int .i64 0, .string ⟨#[]⟩, .int .u64 0, .int .u64 0, .bool is, .bool false, .int .u64 0, .int .u64 0, .int .i64 0, .int .i64 0]] w9 fun e w' => e = .returned (.tuple #[.string ⟨#[]⟩, .bool false]) ∧ Below w9.heap.size w9 w' from LN0)
    clear LN0 hr
    go_upto_region 43 with (first
    | (with_reducible refine wpList_load_blk rfl 28 (.tmp 5) rfl g5 0 rfl B5 [.int .i64 8, .int .i64 0, .int .i64 0, .int .i64 0, .string ⟨#[]⟩, .int .u64 0, .int .u64 0, .bool is, .bool false, .int .u64 0, .int .u64 0, .int .i64 0, .int .i64 0] rfl _ Tryz.underlying28 rfl (by kernel_rfl) ?_)
    | (go_at_call 8; (refine LN.out.mono ?_); rintro e u1 ⟨rfl, hu1⟩))
    have hbF : Below w.heap.size w u1 := below_chain hu1 (below_chain hb9 hbw2.out)
    have H2 := Blk.call (Blk.call h2.out hb9) hu1
    have z0 : u1.cell? ⟨w.heap.size, 0, none⟩ = some (.int .i64 0) := Blk.cell H2 0
    have y0 : u1.frozen? ⟨w.heap.size, 0, none⟩ = false := Blk.frozen H2 0
    have z1 : u1.cell? ⟨w.heap.size, 1, none⟩ = some (.int .i64 0) := Blk.cell H2 1
    have y1 : u1.frozen? ⟨w.heap.size, 1, none⟩ = false := Blk.frozen H2 1
    have z2 : u1.cell? ⟨w.heap.size, 2, none⟩ = some (.int .i64 0) := Blk.cell H2 2
    have y2 : u1.frozen? ⟨w.heap.size, 2, none⟩ = false := Blk.frozen H2 2
    have z3 : u1.cell? ⟨w.heap.size, 3, none⟩ = some (.int .i64 0) := Blk.cell H2 3
    have y3 : u1.frozen? ⟨w.heap.size, 3, none⟩ = false := Blk.frozen H2 3
    have z4 : u1.cell? ⟨w.heap.size, 4, none⟩ = some (.string ⟨#[]⟩) := Blk.cell H2 4
    have y4 : u1.frozen? ⟨w.heap.size, 4, none⟩ = false := Blk.frozen H2 4
    have z5 : u1.cell? ⟨w.heap.size, 5, none⟩ = some (.int .u64 0) := Blk.cell H2 5
    have y5 : u1.frozen? ⟨w.heap.size, 5, none⟩ = false := Blk.frozen H2 5
    have z6 : u1.cell? ⟨w.heap.size, 6, none⟩ = some (.int .u64 0) := Blk.cell H2 6
    have y6 : u1.frozen? ⟨w.heap.size, 6, none⟩ = false := Blk.frozen H2 6
    have z7 : u1.cell? ⟨w.heap.size, 7, none⟩ = some (.bool false) := Blk.cell H2 7
    have y7 : u1.frozen? ⟨w.heap.size, 7, none⟩ = false := Blk.frozen H2 7
    have z8 : u1.cell? ⟨w.heap.size, 8, none⟩ = some (.bool false) := Blk.cell H2 8
    have y8 : u1.frozen? ⟨w.heap.size, 8, none⟩ = false := Blk.frozen H2 8
    have z9 : u1.cell? ⟨w.heap.size, 9, none⟩ = some (.int .u64 0) := Blk.cell H2 9
    have y9 : u1.frozen? ⟨w.heap.size, 9, none⟩ = false := Blk.frozen H2 9
    have z10 : u1.cell? ⟨w.heap.size, 10, none⟩ = some (.int .u64 0) := Blk.cell H2 10
    have y10 : u1.frozen? ⟨w.heap.size, 10, none⟩ = false := Blk.frozen H2 10
    have z11 : u1.cell? ⟨w.heap.size, 11, none⟩ = some (.int .i64 0) := Blk.cell H2 11
    have y11 : u1.frozen? ⟨w.heap.size, 11, none⟩ = false := Blk.frozen H2 11
    have z12 : u1.cell? ⟨w.heap.size, 12, none⟩ = some (.int .i64 0) := Blk.cell H2 12
    have y12 : u1.frozen? ⟨w.heap.size, 12, none⟩ = false := Blk.frozen H2 12
    obtain ⟨hP, hQ⟩ := act_put H2 (.int .i64 0) (.int .i64 0) (.int .i64 0) (.int .i64 0) (.string ⟨#[]⟩) (.int .u64 0) (.int .u64 0) (.bool false) (.bool false) (.int .u64 0) (.int .u64 0) (.int .i64 0) (.int .i64 0)
    replace hP := Lib.hid hP
    replace hQ := Lib.hid hQ
    replace hbF := Lib.hid hbF
    clear H2
    go_wp2_with fail
    refine bodyPost_ret (v := .tuple #[.agg #[.int .i64 0, .int .i64 0, .int .i64 0, .int .i64 0, .string ⟨#[]⟩, .int .u64 0, .int .u64 0, .bool false, .bool false, .int .u64 0, .int .u64 0, .int .i64 0, .int .i64 0], .bool false]) (results_cell2 rfl rfl rfl (loadVar_blk 28 hP.out [.int .i64 0, .int .i64 0, .int .i64 0, .int .i64 0, .string ⟨#[]⟩, .int .u64 0, .int .u64 0, .bool false, .bool false, .int .u64 0, .int .u64 0, .int .i64 0, .int .i64 0] rfl _ Tryz.underlying28 rfl (by kernel_rfl))) rfl ?_
    exact ⟨by rw [hRv], hbF.out.trans (hQ.out.below (fun b hb h => by omega) hbF.out.size)⟩
   | true =>
    rw [hr] at LN0
    obtain ⟨L, hLg⟩ : ∃ L, lineL (⟨8, 0, 0, 0, [], 0, 0, is, false, 0, 0, 0, 0⟩ : ActL) = L := ⟨_, rfl⟩
    rw [hLg] at LN0
    have LN := Lib.hid (show Calls Tryz.prog 8 #[.agg #[.int .i64 8, .int .i64 0, .int .i64 0, .int .i64 0, .string ⟨#[]⟩, .int .u64 0, .int .u64 0, .bool is, .bool false, .int .u64 0, .int .u64 0, .int .i64 0, .int .i64 0]] w9 fun e w' => e = .returned (.tuple #[.string ⟨L.toArray⟩, .bool true]) ∧ Below w9.heap.size w9 w' from LN0)
    replace hLg := Lib.hid hLg
    replace hr := Lib.hid hr
    clear LN0
    by_cases hl : L = l
    ·
     subst hl
     have hRv : R = .tuple #[.agg #[.int .i64 8, .int .i64 0, .int .i64 0, .int .i64 0, .string ⟨#[]⟩, .int .u64 0, .int .u64 0, .bool is, .bool false, .int .u64 0, .int .u64 0, .int .i64 0, .int .i64 0], .bool true] := by rw [← hR.out, if_pos ⟨hr.out, hLg.out⟩]; rfl
     have e1 : (L == L) = true := by simp
     have e2 : (L != L) = false := by simp
     go_upto_region 43 with (first
    | (with_reducible refine wpList_load_blk rfl 28 (.tmp 5) rfl g5 0 rfl B5 [.int .i64 8, .int .i64 0, .int .i64 0, .int .i64 0, .string ⟨#[]⟩, .int .u64 0, .int .u64 0, .bool is, .bool false, .int .u64 0, .int .u64 0, .int .i64 0, .int .i64 0] rfl _ Tryz.underlying28 rfl (by kernel_rfl) ?_)
    | (go_at_call 8; (refine LN.out.mono ?_); rintro e u1 ⟨rfl, hu1⟩))
     have hbF : Below w.heap.size w u1 := below_chain hu1 (below_chain hb9 hbw2.out)
     have H2 := Blk.call (Blk.call h2.out hb9) hu1
     have H5 := Blk.call B5 hu1
     replace hbF := Lib.hid hbF
     go_wp2_with (first
      | (with_reducible refine wpList_load_blk rfl 28 (.tmp 5) rfl g5 0 rfl H5 [.int .i64 8, .int .i64 0, .int .i64 0, .int .i64 0, .string ⟨#[]⟩, .int .u64 0, .int .u64 0, .bool is, .bool false, .int .u64 0, .int .u64 0, .int .i64 0, .int .i64 0] rfl _ Tryz.underlying28 rfl (by kernel_rfl) ?_)
      | (with_reducible refine wpList_store_blk rfl rfl 28 (.tmp 2) (.tmp 137) rfl w.heap.size 0 rfl H2 [.int .i64 8, .int .i64 0, .int .i64 0, .int .i64 0, .string ⟨#[]⟩, .int .u64 0, .int .u64 0, .bool is, .bool false, .int .u64 0, .int .u64 0, .int .i64 0, .int .i64 0] rfl (Nat.le_of_ble_eq_true (by kernel_rfl)) (by kernel_rfl) rfl ?_; intro wy hBy hcy hzy))
     refine bodyPost_ret (v := .tuple #[.agg #[.int .i64 8, .int .i64 0, .int .i64 0, .int .i64 0, .string ⟨#[]⟩, .int .u64 0, .int .u64 0, .bool is, .bool false, .int .u64 0, .int .u64 0, .int .i64 0, .int .i64 0], .bool true]) (results_cell2 rfl rfl rfl (loadVar_blk 28 hBy [.int .i64 8, .int .i64 0, .int .i64 0, .int .i64 0, .string ⟨#[]⟩, .int .u64 0, .int .u64 0, .bool is, .bool false, .int .u64 0, .int .u64 0, .int .i64 0, .int .i64 0] rfl _ Tryz.underlying28 rfl (by kernel_rfl))) rfl ?_
     exact ⟨by rw [hRv], hbF.out.trans (hcy.below (fun b hb h => by omega) hbF.out.size)⟩
    ·
     have hRv : R = .tuple #[.agg #[.int .i64 0, .int .i64 0, .int .i64 0, .int .i64 0, .string ⟨#[]⟩, .int .u64 0, .int .u64 0, .bool false, .bool false, .int .u64 0, .int .u64 0, .int .i64 0, .int .i64 0], .bool false] := by rw [← hR.out, if_neg (fun h => hl (hLg.out.symm.trans h.2))]; rfl
     have e1 : (L == l) = false := by simpa using hl
     have e2 : (L != l) = true := by simpa using hl
     go_upto_region 43 with (first
    | (with_reducible refine wpList_load_blk rfl 28 (.tmp 5) rfl g5 0 rfl B5 [.int .i64 8, .int .i64 0, .int .i64 0, .int .i64 0, .string ⟨#[]⟩, .int .u64 0, .int .u64 0, .bool is, .bool false, .int .u64 0, .int .u64 0, .int .i64 0, .int .i64 0] rfl _ Tryz.underlying28 rfl (by kernel_rfl) ?_)
    | (go_at_call 8; (refine LN.out.mono ?_); rintro e u1 ⟨rfl, hu1⟩))
     have hbF : Below w.heap.size w u1 := below_chain hu1 (below_chain hb9 hbw2.out)
     have H2 := Blk.call (Blk.call h2.out hb9) hu1
     have z0 : u1.cell? ⟨w.heap.size, 0, none⟩ = some (.int .i64 0) := Blk.cell H2 0
     have y0 : u1.frozen? ⟨w.heap.size, 0, none⟩ = false := Blk.frozen H2 0
     have z1 : u1.cell? ⟨w.heap.size, 1, none⟩ = some (.int .i64 0) := Blk.cell H2 1
     have y1 : u1.frozen? ⟨w.heap.size, 1, none⟩ = false := Blk.frozen H2 1
     have z2 : u1.cell? ⟨w.heap.size, 2, none⟩ = some (.int .i64 0) := Blk.cell H2 2
     have y2 : u1.frozen? ⟨w.heap.size, 2, none⟩ = false := Blk.frozen H2 2
     have z3 : u1.cell? ⟨w.heap.size, 3, none⟩ = some (.int .i64 0) := Blk.cell H2 3
     have y3 : u1.frozen? ⟨w.heap.size, 3, none⟩ = false := Blk.frozen H2 3
     have z4 : u1.cell? ⟨w.heap.size, 4, none⟩ = some (.string ⟨#[]⟩) := Blk.cell H2 4
     have y4 : u1.frozen? ⟨w.heap.size, 4, none⟩ = false := Blk.frozen H2 4
     have z5 : u1.cell? ⟨w.heap.size, 5, none⟩ = some (.int .u64 0) := Blk.cell H2 5
     have y5 : u1.frozen? ⟨w.heap.size, 5, none⟩ = false := Blk.frozen H2 5
     have z6 : u1.cell? ⟨w.heap.size, 6, none⟩ = some (.int .u64 0) := Blk.cell H2 6
     have y6 : u1.frozen? ⟨w.heap.size, 6, none⟩ = false := Blk.frozen H2 6
     have z7 : u1.cell? ⟨w.heap.size, 7, none⟩ = some (.bool false) := Blk.cell H2 7
     have y7 : u1.frozen? ⟨w.heap.size, 7, none⟩ = false := Blk.frozen H2 7
     have z8 : u1.cell? ⟨w.heap.size, 8, none⟩ = some (.bool false) := Blk.cell H2 8
     have y8 : u1.frozen? ⟨w.heap.size, 8, none⟩ = false := Blk.frozen H2 8
     have z9 : u1.cell? ⟨w.heap.size, 9, none⟩ = some (.int .u64 0) := Blk.cell H2 9
     have y9 : u1.frozen? ⟨w.heap.size, 9, none⟩ = false := Blk.frozen H2 9
     have z10 : u1.cell? ⟨w.heap.size, 10, none⟩ = some (.int .u64 0) := Blk.cell H2 10
     have y10 : u1.frozen? ⟨w.heap.size, 10, none⟩ = false := Blk.frozen H2 10
     have z11 : u1.cell? ⟨w.heap.size, 11, none⟩ = some (.int .i64 0) := Blk.cell H2 11
     have y11 : u1.frozen? ⟨w.heap.size, 11, none⟩ = false := Blk.frozen H2 11
     have z12 : u1.cell? ⟨w.heap.size, 12, none⟩ = some (.int .i64 0) := Blk.cell H2 12
     have y12 : u1.frozen? ⟨w.heap.size, 12, none⟩ = false := Blk.frozen H2 12
     obtain ⟨hP, hQ⟩ := act_put H2 (.int .i64 0) (.int .i64 0) (.int .i64 0) (.int .i64 0) (.string ⟨#[]⟩) (.int .u64 0) (.int .u64 0) (.bool false) (.bool false) (.int .u64 0) (.int .u64 0) (.int .i64 0) (.int .i64 0)
     replace hP := Lib.hid hP
     replace hQ := Lib.hid hQ
     replace hbF := Lib.hid hbF
     clear H2
     go_wp2_with fail
     refine bodyPost_ret (v := .tuple #[.agg #[.int .i64 0, .int .i64 0, .int .i64 0, .int .i64 0, .string ⟨#[]⟩, .int .u64 0, .int .u64 0, .bool false, .bool false, .int .u64 0, .int .u64 0, .int .i64 0, .int .i64 0], .bool false]) (results_cell2 rfl rfl rfl (loadVar_blk 28 hP.out [.int .i64 0, .int .i64 0, .int .i64 0, .int .i64 0, .string ⟨#[]⟩, .int .u64 0, .int .u64 0, .bool false, .bool false, .int .u64 0, .int .u64 0, .int .i64 0, .int .i64 0] rfl _ Tryz.underlying28 rfl (by kernel_rfl))) rfl ?_
     exact ⟨by rw [hRv], hbF.out.trans (hQ.out.below (fun b hb h => by omega) hbF.out.size)⟩
end Go.Proofs.YtodbgjnccngljaaGreatDoor
