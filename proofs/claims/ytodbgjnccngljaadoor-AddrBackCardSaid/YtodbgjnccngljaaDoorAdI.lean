/- addr: joined, Read. -/
import Derived.Test.YtodbgjnccngljaaDoorAdH
namespace Go.Proofs.YtodbgjnccngljaaDoor
open Go Go.RowKit Go.Deep

theorem allP_drop (f : List UInt8 → Option (List UInt8)) (ws : List (List UInt8)) {j : Nat} (h : j < ws.length) : allP f (ws.drop j) = match f (ws.getD j []) with | none => none | some b => (allP f (ws.drop (j + 1))).map (b ++ ·) := by
  rw [List.drop_eq_getElem_cons h, allP, List.getD_eq_getElem?_getD, List.getElem?_eq_getElem h]
  rfl
theorem parts_len (c : UInt8) (s : List UInt8) : (parts c s).length ≤ s.length + 1 ∧ ∀ x ∈ parts c s, x.length ≤ s.length := by
  induction s with
  | nil => simp [parts]
  | cons y r ih =>
    obtain ⟨p, ps, e⟩ := parts_cons c r
    unfold parts
    rw [e] at ih ⊢
    split
    · refine ⟨by simp at ih ⊢; omega, fun x hx => ?_⟩
      rcases List.mem_cons.1 hx with rfl | hx
      · simp
      · have := ih.2 x hx; simp; omega
    · refine ⟨by simp at ih ⊢; omega, fun x hx => ?_⟩
      rcases List.mem_cons.1 hx with rfl | hx
      · have := ih.2 p (by simp); simp; omega
      · have := ih.2 x (by simp at hx ⊢; exact Or.inr hx); simp; omega
theorem blk_str {w : World} {b t : Nat} {ws : List (List UInt8)} (h : Blk w b t (strs ws)) {j : Nat} (hj : j < ws.length) : w.cell? ⟨b, j, none⟩ = some (.string ⟨(ws.getD j []).toArray⟩) := by
  rw [h.cell j, List.getElem?_toArray, List.getElem?_map, List.getD_eq_getElem?_getD, List.getElem?_eq_getElem hj]
  rfl

set_option maxRecDepth 100000 in
set_option maxHeartbeats 8000000 in
theorem addr_joined (F : Nat) (f : List UInt8 → Option (List UInt8)) (k : Nat) (hf : ∀ s b, f s = some b → b.length = k)
    (hC : ∀ (s : List UInt8) (w : World), Std w → s.length ≤ 1000000 → Calls Tryd.prog F #[.string ⟨s.toArray⟩] w fun e w' => (∃ v, e = .returned v ∧ okV (f s) v) ∧ Below w.heap.size w w')
    (hE : ∀ args w, (callFunc F args).run Tryd.prog w = .ok (.enter F args) w)
    (l : List UInt8) (c : UInt8) (n : Nat) (w : World) (hw : Std w) (hL : l.length ≤ 10000) (hk : k ≤ 16) :
    Calls Tryd.prog 28 #[.string ⟨l.toArray⟩, .string ⟨#[c]⟩, .int .i64 n, .func (.func F) #[] #[]] w fun e w' => e = .returned (adrT (joinedL l c n f)) ∧ Below w.heap.size w w' := by
  have K := Blk.new w 24 #[.bool false, .int .u64 0, .int .u64 0]
  have hb0 : Below w.heap.size w (w.alloc (.cells #[.bool false, .int .u64 0, .int .u64 0] 24)) := (Below.refl _ _).alloc (Nat.le_refl _) _
  have hw0 := hw.below hb0
  obtain ⟨hpl, hpx⟩ := parts_len c l
  obtain ⟨J, hJ⟩ : ∃ J, joinedL l c n f = J := ⟨_, rfl⟩
  rw [hJ]
  replace hJ := Lib.hid hJ
  have S := Lib.hid (std_split l c _ hw0 (by omega))
  have hs0 : (w.alloc (.cells #[.bool false, .int .u64 0, .int .u64 0] 24)).heap.size = w.heap.size + 1 := by simp
  rw [hs0] at S
  obtain ⟨ws, hws⟩ : ∃ ws, parts c l = ws := ⟨_, rfl⟩
  rw [hws] at S hpl hpx
  have hJ1 : ws.length ≠ n → J = none := fun h => by rw [← hJ.out]; unfold joinedL; rw [hws, if_neg h]
  have hJ2 : ws.length = n → J = (allP f ws).bind getA := fun h => by rw [← hJ.out]; unfold joinedL; rw [hws, if_pos h]
  clear hJ hws
  by_cases hlen : ws.length = n
  · have J2 := hJ2 hlen
    have e1 : ((ws.length : Int) != (n : Int)) = false := by rw [hlen]; simp
    replace J2 := Lib.hid J2
    clear hJ1 hJ2 hlen
    replace hpx := Lib.hid hpx
    go_enter Tryd.func28, Tryd.ntmps28
    go_wp2_with (go_at_call 46; refine S.out.mono ?_; rintro e w2 ⟨rfl, hB2, hb2⟩; have K1 := K.call (hb2.mono (by rw [hs0]; exact Nat.le_refl _)))
    have hbA : Below w.heap.size w w2 := hb0.trans (hb2.mono (by omega))
    clear K hb2
    go_loopw [11, 26] (fun s i wr => ∃ (j : Nat) (acc : List UInt8), j ≤ ws.length ∧ i = .int .i64 (j : Nat) ∧ s = .string ⟨acc.toArray⟩ ∧ acc.length ≤ 16 * j ∧ allP f ws = (allP f (ws.drop j)).map (acc ++ ·) ∧ Below w2.heap.size w2 wr) (fun _ i _ => ws.length - (intOf i).toNat)
    case atStart => exact ⟨0, [], by omega, rfl, rfl, by simp, by cases hh : allP f ws <;> simp [hh], Below.refl _ _⟩
    case round =>
      obtain ⟨j, acc, hj, rfl, rfl, hal, hall, hb⟩ := hrel
      have hBr := hB2.call hb
      have Kr := K1.call hb
      have hbr := below_chain hb hbA
      have hwr := hw.below hbr
      by_cases hlt : j < ws.length
      · have hlti : (j : Int) < (ws.length : Int) := by omega
        have c9 := blk_str hBr hlt
        rw [allP_drop f ws hlt] at hall
        have hxl : (ws.getD j []).length ≤ l.length := hpx.out _ (by rw [List.getD_eq_getElem?_getD, List.getElem?_eq_getElem hlt]; simp)
        obtain ⟨x, hx⟩ : ∃ x, ws.getD j [] = x := ⟨_, rfl⟩
        rw [hx] at c9 hall hxl
        have C := hC x wr hwr (by omega)
        have hfx := hf x
        cases hfv : f x with
        | none =>
          rw [hfv] at hall C
          have hJn : J = none := by rw [J2.out, hall]; rfl
          subst hJn
          replace C := Lib.hid C
          clear hall hfx hfv J2
          go_wp2_with (first | (go_at_fn F; refine C.out.mono ?_; rintro e w4 ⟨⟨_, rfl, q, rfl⟩, hb4⟩; have K2 := Kr.call hb4; have hbA := below_chain hb4 hbr; obtain ⟨⟨c0, c1, c2⟩, f0, f1, f2⟩ := blk3 K2; replace K2 := Lib.hid K2))
          have K3 := blk3_set K2.out (.bool false) (.int .u64 0) (.int .u64 0); have hb3 := below_set3 hbA (Nat.le_refl _) (.bool false) (.int .u64 0) (.int .u64 0); generalize (((w4.setCell ⟨w.heap.size, 0, none⟩ (.bool false)).setCell ⟨w.heap.size, 1, none⟩ (.int .u64 0)).setCell ⟨w.heap.size, 2, none⟩ (.int .u64 0)) = w3 at *; clear c0 c1 c2 f0 f1 f2; obtain ⟨⟨c0, c1, c2⟩, f0, f1, f2⟩ := blk3 K3; replace K3 := Lib.hid K3; refine bodyPost_ret (v := .tuple #[.agg #[.bool false, .int .u64 0, .int .u64 0], .bool false]) (by simp [results, Tryd.results28, go_sem, *]) rfl ?_
          exact ⟨rfl, hb3⟩
        | some b =>
          rw [hfv] at hall C
          have hbl := hfx b hfv
          have hall2 : allP f ws = (allP f (ws.drop (j + 1))).map ((acc ++ b) ++ ·) := by
            rw [hall]
            cases allP f (ws.drop (j + 1)) <;> simp
          have hcat : (ByteArray.mk acc.toArray) ++ ⟨b.toArray⟩ = ⟨(acc ++ b).toArray⟩ := str_append acc b
          have hss : ¬ 9223372036854775807 < acc.length + b.length := by omega
          have hab : (acc ++ b).length ≤ 16 * (j + 1) := by simp; omega
          clear hall hfx hfv
          have C2 : Calls Tryd.prog F #[.string ⟨x.toArray⟩] wr fun e w' => e = .returned (.tuple #[.string ⟨b.toArray⟩, .bool true]) ∧ Below wr.heap.size wr w' := C.mono fun e w' ⟨⟨v, h1, h2⟩, h3⟩ => ⟨by rw [h1, show v = _ from h2], h3⟩
          replace C2 := Lib.hid C2
          clear C
          replace hall2 := Lib.hid hall2
          replace hcat := Lib.hid hcat
          go_wp2_with (first | (go_at_fn F; refine C2.out.mono ?_; rintro e w4 ⟨rfl, hb4⟩))
          go_roundw
          case rel => exact ⟨j + 1, acc ++ b, by omega, by go_num, by rw [← hcat.out], hab, hall2.out, below_chain hb4 hb⟩
          case measure => simp [intOf]; omega
      · have hlti : ¬ (j : Int) < (ws.length : Int) := by omega
        obtain rfl : j = ws.length := by omega
        rw [List.drop_length] at hall
        have hJ : J = getA acc := by
          rw [J2.out, hall]
          show (Option.map (acc ++ ·) (some [])).bind getA = getA acc
          simp
        subst hJ
        have G := addr_get acc wr
        cases hg : getA acc with
        | none =>
          rw [hg] at G
          replace G := Lib.hid (show Calls Tryd.prog 7 #[.string ⟨acc.toArray⟩] wr fun e w' => e = .returned (.tuple #[.agg #[.bool false, .int .u64 0, .int .u64 0], .bool false]) ∧ Below wr.heap.size wr w' from G)
          replace hg := Lib.hid hg
          clear hall
          go_wp2_with (go_at_call 7; refine G.out.mono ?_; rintro e w4 ⟨rfl, hb4⟩; have K2 := Kr.call hb4; have hbA := below_chain hb4 hbr; obtain ⟨⟨c0, c1, c2⟩, f0, f1, f2⟩ := blk3 K2; replace K2 := Lib.hid K2)
          have K3 := blk3_set K2.out (.bool false) (.int .u64 0) (.int .u64 0); have hb3 := below_set3 hbA (Nat.le_refl _) (.bool false) (.int .u64 0) (.int .u64 0); generalize (((w4.setCell ⟨w.heap.size, 0, none⟩ (.bool false)).setCell ⟨w.heap.size, 1, none⟩ (.int .u64 0)).setCell ⟨w.heap.size, 2, none⟩ (.int .u64 0)) = w3 at *; clear c0 c1 c2 f0 f1 f2; obtain ⟨⟨c0, c1, c2⟩, f0, f1, f2⟩ := blk3 K3; replace K3 := Lib.hid K3; refine bodyPost_ret (v := .tuple #[.agg #[.bool false, .int .u64 0, .int .u64 0], .bool false]) (by simp [results, Tryd.results28, go_sem, *]) rfl ?_
          exact ⟨by rw [hg.out]; rfl, hb3⟩
        | some r =>
          obtain ⟨v, hi, lo⟩ := r
          rw [hg] at G
          replace G := Lib.hid (show Calls Tryd.prog 7 #[.string ⟨acc.toArray⟩] wr fun e w' => e = .returned (.tuple #[.agg #[.bool v, .int .u64 (hi : Nat), .int .u64 (lo : Nat)], .bool true]) ∧ Below wr.heap.size wr w' from G)
          replace hg := Lib.hid hg
          clear hall
          go_wp2_with (go_at_call 7; refine G.out.mono ?_; rintro e w4 ⟨rfl, hb4⟩; have K2 := Kr.call hb4; have hbA := below_chain hb4 hbr; obtain ⟨⟨c0, c1, c2⟩, f0, f1, f2⟩ := blk3 K2; replace K2 := Lib.hid K2)
          have K3 := blk3_set K2.out (.bool v) (.int .u64 (hi : Nat)) (.int .u64 (lo : Nat)); have hb3 := below_set3 hbA (Nat.le_refl _) (.bool v) (.int .u64 (hi : Nat)) (.int .u64 (lo : Nat)); generalize (((w4.setCell ⟨w.heap.size, 0, none⟩ (.bool v)).setCell ⟨w.heap.size, 1, none⟩ (.int .u64 (hi : Nat))).setCell ⟨w.heap.size, 2, none⟩ (.int .u64 (lo : Nat))) = w3 at *; clear c0 c1 c2 f0 f1 f2; obtain ⟨⟨c0, c1, c2⟩, f0, f1, f2⟩ := blk3 K3; replace K3 := Lib.hid K3; refine bodyPost_ret (v := .tuple #[.agg #[.bool v, .int .u64 (hi : Nat), .int .u64 (lo : Nat)], .bool true]) (by simp [results, Tryd.results28, go_sem, *]) rfl ?_
          exact ⟨by rw [hg.out]; rfl, hb3⟩
  · have hJ := hJ1 hlen
    subst hJ
    have e1 : ((ws.length : Int) == (n : Int)) = false := by rw [beq_eq_false_iff_ne]; omega
    clear hJ1 hJ2 hlen
    go_enter Tryd.func28, Tryd.ntmps28
    go_wp2_with (go_at_call 46; refine S.out.mono ?_; rintro e w4 ⟨rfl, hB2, hb2⟩; have K2 := K.call (hb2.mono (by rw [hs0]; exact Nat.le_refl _)); have hbA : Below w.heap.size w w4 := hb0.trans (hb2.mono (by omega)); obtain ⟨⟨c0, c1, c2⟩, f0, f1, f2⟩ := blk3 K2; replace K2 := Lib.hid K2)
    have K3 := blk3_set K2.out (.bool false) (.int .u64 0) (.int .u64 0); have hb3 := below_set3 hbA (Nat.le_refl _) (.bool false) (.int .u64 0) (.int .u64 0); generalize (((w4.setCell ⟨w.heap.size, 0, none⟩ (.bool false)).setCell ⟨w.heap.size, 1, none⟩ (.int .u64 0)).setCell ⟨w.heap.size, 2, none⟩ (.int .u64 0)) = w3 at *; clear c0 c1 c2 f0 f1 f2; obtain ⟨⟨c0, c1, c2⟩, f0, f1, f2⟩ := blk3 K3; replace K3 := Lib.hid K3; refine bodyPost_ret (v := .tuple #[.agg #[.bool false, .int .u64 0, .int .u64 0], .bool false]) (by simp [results, Tryd.results28, go_sem, *]) rfl ?_
    exact ⟨rfl, hb3⟩
end Go.Proofs.YtodbgjnccngljaaDoor
