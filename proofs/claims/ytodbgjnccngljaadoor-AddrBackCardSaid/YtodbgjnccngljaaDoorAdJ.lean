/- addr: Read. -/
import Derived.Test.YtodbgjnccngljaaDoorAdI
import Derived.Shelf.Abstract
import Derived.Deep.Cut
namespace Go.Proofs.YtodbgjnccngljaaDoor
open Go Go.RowKit Go.Deep Go.Shelf

theorem part_len (s b : List UInt8) (h : partL s = some b) : b.length = 1 := by
  obtain ⟨c, rfl, _⟩ := partL_inv h; rfl
theorem grp_len (s b : List UInt8) (h : grpL s = some b) : b.length = 2 := (grpL_inv h).1
theorem adr_lit {o : Option (Bool × Nat × Nat)} : (o = none ∧ adrT o = .tuple #[.agg #[.bool false, .int .u64 0, .int .u64 0], .bool false]) ∨ ∃ v hi lo, o = some (v, hi, lo) ∧ adrT o = .tuple #[.agg #[.bool v, .int .u64 (hi : Nat), .int .u64 (lo : Nat)], .bool true] := by
  rcases o with _ | ⟨v, hi, lo⟩
  · exact Or.inl ⟨rfl, rfl⟩
  · exact Or.inr ⟨v, hi, lo, rfl, rfl⟩

set_option maxRecDepth 100000 in
set_option maxHeartbeats 8000000 in
theorem addr_read (l : List UInt8) (w : World) (hw : Std w) (hL : l.length ≤ 10000) :
    Calls Tryd.prog 9 #[.string ⟨l.toArray⟩] w fun e w' => e = .returned (adrT (readA l)) ∧ Below w.heap.size w w' := by
  have K := Blk.new w 24 #[.bool false, .int .u64 0, .int .u64 0]
  have hb0 : Below w.heap.size w (w.alloc (.cells #[.bool false, .int .u64 0, .int .u64 0] 24)) := (Below.refl _ _).alloc (Nat.le_refl _) _
  have hw0 := hw.below hb0
  have P := addr_joined 29 partL 1 part_len (fun s w hw hl => addr_part s w hw hl) (enters_of Tryd.func29 (by kernel_rfl) rfl) l 46 4
  have G := addr_joined 30 grpL 2 grp_len (fun s w _ hl => addr_group s w hl) (enters_of Tryd.func30 (by kernel_rfl) rfl) l 58 8
  rw [show ((4 : Nat) : Int) = 4 from rfl] at P
  rw [show ((8 : Nat) : Int) = 8 from rfl] at G
  have P2 := P _ hw0 hL (by omega)
  have G2 := fun W hW => G W hW hL (by omega)
  obtain ⟨r, hr⟩ : ∃ r, readA l = r := ⟨_, rfl⟩
  rw [hr]
  unfold readA at hr
  obtain ⟨o1, ho1⟩ : ∃ o, joinedL l 46 4 partL = o := ⟨_, rfl⟩
  obtain ⟨o2, ho2⟩ : ∃ o, joinedL l 58 8 grpL = o := ⟨_, rfl⟩
  rw [ho1] at P2 hr
  rw [ho2] at G2 hr
  clear P G ho1 ho2
  rcases adr_lit (o := o1) with ⟨rfl, e1⟩ | ⟨v, hi, lo, rfl, e1⟩
  · rw [e1] at P2
    have hr2 : o2 = r := hr
    subst hr2
    replace P2 := Lib.hid P2
    clear e1 hr
    rcases adr_lit (o := o2) with ⟨rfl, e2⟩ | ⟨v, hi, lo, rfl, e2⟩
    · rw [e2] at G2 ⊢
      replace G2 := Lib.hid G2
      clear e2
      go_enter Tryd.func9, Tryd.ntmps9
      go_wp2_with (first
        | (go_at_call 28; (with_reducible refine P2.out.mono ?_); rintro e w2 ⟨rfl, hb2⟩; have K1 := K.call hb2; have hbA := below_chain hb2 hb0)
        | (go_at_call 28; (with_reducible refine (G2.out _ (hw.below (below_alloc hbA _))).mono ?_); rintro e w4 ⟨rfl, hb4⟩; have K2 := (K1.alloc _).call hb4; have hbA := below_chain hb4 (below_alloc hbA _); obtain ⟨⟨c0, c1, c2⟩, f0, f1, f2⟩ := blk3 K2; replace K2 := Lib.hid K2))
      have K3 := blk3_set K2.out (.bool false) (.int .u64 0) (.int .u64 0); have hb3 := below_set3 hbA (Nat.le_refl _) (.bool false) (.int .u64 0) (.int .u64 0); generalize (((w4.setCell ⟨w.heap.size, 0, none⟩ (.bool false)).setCell ⟨w.heap.size, 1, none⟩ (.int .u64 0)).setCell ⟨w.heap.size, 2, none⟩ (.int .u64 0)) = w3 at *; clear c0 c1 c2 f0 f1 f2; obtain ⟨⟨c0, c1, c2⟩, f0, f1, f2⟩ := blk3 K3; replace K3 := Lib.hid K3; refine bodyPost_ret (v := .tuple #[.agg #[.bool false, .int .u64 0, .int .u64 0], .bool false]) (by simp [results, Tryd.results9, go_sem, *]) rfl ?_
      exact ⟨rfl, hb3⟩
    · rw [e2] at G2 ⊢
      replace G2 := Lib.hid G2
      clear e2
      go_enter Tryd.func9, Tryd.ntmps9
      go_wp2_with (first
        | (go_at_call 28; (with_reducible refine P2.out.mono ?_); rintro e w2 ⟨rfl, hb2⟩; have K1 := K.call hb2; have hbA := below_chain hb2 hb0)
        | (go_at_call 28; (with_reducible refine (G2.out _ (hw.below (below_alloc hbA _))).mono ?_); rintro e w4 ⟨rfl, hb4⟩; have K2 := (K1.alloc _).call hb4; have hbA := below_chain hb4 (below_alloc hbA _); obtain ⟨⟨c0, c1, c2⟩, f0, f1, f2⟩ := blk3 K2; replace K2 := Lib.hid K2))
      have K3 := blk3_set K2.out (.bool v) (.int .u64 (hi : Nat)) (.int .u64 (lo : Nat)); have hb3 := below_set3 hbA (Nat.le_refl _) (.bool v) (.int .u64 (hi : Nat)) (.int .u64 (lo : Nat)); generalize (((w4.setCell ⟨w.heap.size, 0, none⟩ (.bool v)).setCell ⟨w.heap.size, 1, none⟩ (.int .u64 (hi : Nat))).setCell ⟨w.heap.size, 2, none⟩ (.int .u64 (lo : Nat))) = w3 at *; clear c0 c1 c2 f0 f1 f2; obtain ⟨⟨c0, c1, c2⟩, f0, f1, f2⟩ := blk3 K3; replace K3 := Lib.hid K3; refine bodyPost_ret (v := .tuple #[.agg #[.bool v, .int .u64 (hi : Nat), .int .u64 (lo : Nat)], .bool true]) (by simp [results, Tryd.results9, go_sem, *]) rfl ?_
      exact ⟨rfl, hb3⟩
  · have hr2 : some (v, hi, lo) = r := hr
    subst hr2
    rw [e1] at P2 ⊢
    replace P2 := Lib.hid P2
    clear e1 hr G2
    go_enter Tryd.func9, Tryd.ntmps9
    go_upto_region 3 with (first
        | (go_at_call 28; (with_reducible refine P2.out.mono ?_); rintro e w2 ⟨rfl, hb2⟩; have K1 := K.call hb2; have hbA := below_chain hb2 hb0))
    have K6 := Blk.new w2 24 #[.bool v, .int .u64 (hi : Nat), .int .u64 (lo : Nat)]
    have K2 := K1.alloc (.cells #[.bool v, .int .u64 (hi : Nat), .int .u64 (lo : Nat)] 24)
    replace hbA := below_alloc hbA (.cells #[.bool v, .int .u64 (hi : Nat), .int .u64 (lo : Nat)] 24)
    generalize w2.alloc (.cells #[.bool v, .int .u64 (hi : Nat), .int .u64 (lo : Nat)] 24) = w4 at *
    obtain ⟨⟨d0, d1, d2⟩, g0, g1, g2⟩ := blk3 K6
    obtain ⟨⟨c0, c1, c2⟩, f0, f1, f2⟩ := blk3 K2
    clear K K1 K6 hb2 hb0 hw0
    replace K2 := Lib.hid K2
    go_wp2_with fail
    clear d0 d1 d2 g0 g1 g2
    have K3 := blk3_set K2.out (.bool v) (.int .u64 (hi : Nat)) (.int .u64 (lo : Nat)); have hb3 := below_set3 hbA (Nat.le_refl _) (.bool v) (.int .u64 (hi : Nat)) (.int .u64 (lo : Nat)); generalize (((w4.setCell ⟨w.heap.size, 0, none⟩ (.bool v)).setCell ⟨w.heap.size, 1, none⟩ (.int .u64 (hi : Nat))).setCell ⟨w.heap.size, 2, none⟩ (.int .u64 (lo : Nat))) = w3 at *; clear c0 c1 c2 f0 f1 f2; obtain ⟨⟨c0, c1, c2⟩, f0, f1, f2⟩ := blk3 K3; replace K3 := Lib.hid K3; refine bodyPost_ret (v := .tuple #[.agg #[.bool v, .int .u64 (hi : Nat), .int .u64 (lo : Nat)], .bool true]) (by simp [results, Tryd.results9, go_sem, *]) rfl ?_
    exact ⟨rfl, hb3⟩
end Go.Proofs.YtodbgjnccngljaaDoor
