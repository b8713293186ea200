/- policy: the law's awake. -/
import Derived.Test.YtkpkjpdhlmjchaaPolG
namespace Go.Proofs.Ytkpkjpdhlmjchaa
open Go Go.RowKit Go.Deep

theorem one_pickI {w : World} {g gt gl bl base : Nat} {kind size ka kb : Int} (M : LM) (b : Bk) (v1 : Int) (A : Option Addr) (c : Nat) (t : Tup) (X Y : Int) (hx : 0 ≤ X ∧ X < 18446744073709551616) (hy : 0 ≤ Y ∧ Y < 18446744073709551616)
    (hC : ChBlk w g kind size ka kb (.pointer (some ⟨gt, 0, none⟩)) (.pointer none) false 0) (hT : TurnAt w base gt false 0 0 []) (hbase : base ≤ w.heap.size) (hgb : base ≤ gt) (hL : LoadAt w gl bl M) (hr : Reads w w.heap.size 6 A 1 b.cells) (hag : ∀ a, A = some a → ¬ a.block = gt)
    (hp : polOk kind size = true) (hid : 1 ≤ b.id ∧ b.id ≤ 65535) (hw : 0 ≤ b.w ∧ b.w ≤ 1000) (hwf : bkWf b) :
    Calls Try.prog 41 #[.pointer (some ⟨g, 0, none⟩), .agg #[.int .i64 v1, .slice A 1 c], .pointer (some ⟨gl, 0, none⟩), t.val, .int .u64 X, .int .u64 Y] w fun e w' =>
      e = .returned (.tuple #[.int .i64 b.id, .int .i64 0]) ∧ (∃ tp so ver, ChBlk w' g kind size ka kb (.pointer (some ⟨gt, 0, none⟩)) tp so ver) ∧ Chg (CB w base g) w w' := by
  obtain ⟨x, rfl⟩ : ∃ x : Nat, X = x := ⟨X.toNat, by omega⟩
  obtain ⟨y, rfl⟩ : ∃ y : Nat, Y = y := ⟨Y.toNat, by omega⟩
  exact one_pick M b v1 A c t x y (by omega) (by omega) hC hT hbase hgb hL hr hag hp hid hw hwf
theorem cb_below {w w1 w2 : World} {base g : Nat} (h : Below base w w1) (hc : Chg (CB w1 base g) w1 w2) (hg : base ≤ g) (hs : base ≤ w1.heap.size) : Below base w w2 :=
  below_chg h hc (fun b' hb' e => by rcases e with ⟨-, e⟩ | e <;> omega) hs
set_option maxRecDepth 100000 in
set_option maxHeartbeats 8000000 in
theorem awake30 (w : World) : Calls Try.prog 39 #[] w fun e w' => e = .returned (.bool true) ∧ Below w.heap.size w w' := by
  have N1 := polnew_ok 1 13 0 0 w (by decide)
  have N2 := fun W => polnew_bad 5 13 0 0 W (by decide)
  have H6 := fun (W : World) => polpick_err (w := W) (.pointer none) 0 none 0 0 tup0 (.pointer none) 0 0 1 (by decide) (fun W' _ => ready_nil _ _ W')
  have H7 := fun (W : World) (g : Nat) (hC : ChBlk W g 0 0 0 0 (.pointer none) (.pointer none) false 0) => polhash_err (w := W) (.pointer (some ⟨g, 0, none⟩)) 0 none 0 0 tup0 1 (by decide) (fun W' hb => ready_plain _ _ (hC.call hb))
  have H2 := fun (W : World) (g gt gl bl : Nat) (A : Option Addr) hC hT hb hg hL hr ha => one_pickI (w := W) (g := g) (gt := gt) (gl := gl) (bl := bl) (base := w.heap.size) (kind := 1) (size := 13) (ka := 0) (kb := 0) [] ⟨7, 1, 0, false, 0, 0⟩ 1 A 1 tup0 0 0 (by omega) (by omega) hC hT hb hg hL hr ha (by decide) (by decide) (by decide) rfl
  unfold tup0 Tup.val at *
  dsimp only at *
  replace N1 := Lib.hid N1
  replace N2 := Lib.hid N2
  replace H2 := Lib.hid H2
  replace H6 := Lib.hid H6
  replace H7 := Lib.hid H7
  go_enter Try.func39, Try.ntmps39
  go_wp2_with fail
  refine N1.out.mono ?_
  rintro e w1 ⟨⟨gc, gn, rfl, hgc, hgn, hC, hT⟩, hb1⟩
  have R1 : Reads (w1.alloc (.cells #[.int .i64 7, .int .i64 1, .int .i64 0, .bool false, .int .u64 0, .int .u64 0] 47)) (w1.alloc (.cells #[.int .i64 7, .int .i64 1, .int .i64 0, .bool false, .int .u64 0, .int .u64 0] 47)).heap.size 6 (some ⟨w1.heap.size, 0, none⟩) 1 [.int .i64 7, .int .i64 1, .int .i64 0, .bool false, .int .u64 0, .int .u64 0] := lits_read w1 _ 6 1 _ _ rfl (by simp)
  have hv : Below w1.heap.size w1 (w1.alloc (.cells #[.int .i64 7, .int .i64 1, .int .i64 0, .bool false, .int .u64 0, .int .u64 0] 47)) := below_alloc (Below.refl _ _) _
  have hb2 := below_chain hv hb1
  have hC2 := hC.call hv
  have hT2 := hT.call hv
  have hne : ¬ w1.heap.size = gn := by
    obtain ⟨_, _, h3, _⟩ := hT
    have := h3.lt
    omega
  replace hne : ∀ a : Addr, some (⟨w1.heap.size, 0, none⟩ : Addr) = some a → ¬ a.block = gn := by
    rintro a ⟨⟩
    exact hne
  clear hv hb1 hC hT N1
  go_wp2_with fail
  generalize w1.alloc (.cells #[.int .i64 7, .int .i64 1, .int .i64 0, .bool false, .int .u64 0, .int .u64 0] 47) = w2 at *
  refine (load_new _).mono ?_
  rintro e w3 ⟨gl, bl, rfl, hL, -, -, hb3⟩
  have hb4 := below_chain hb3 hb2
  have R3 := (R1.below hb3).more hb3.size
  have hC3 := hC2.call hb3
  have hT3 := hT2.call hb3
  have hz3 := hb4.size
  clear hb3 hb2 R1 hC2 hT2
  go_wp2_with fail
  refine (H2.out _ gc gn gl bl _ hC3 hT3 hz3 hgn hL R3 hne).mono ?_
  rintro e w4 ⟨rfl, -, hc4⟩
  have hb5 := cb_below hb4 hc4 hgc hz3
  clear H2 hC3 hT3 hz3 hL R3 hne hc4 hb4
  go_wp2_with fail
  refine (N2.out _).mono ?_
  rintro e w5 ⟨rfl, hb6⟩
  have hb7 := below_chain hb6 hb5
  clear hb5 hb6 N2
  have C5 : ChBlk (w5.alloc (.cells (chArr 0 0 0 0 (.pointer none) (.pointer none) false 0) 149)) w5.heap.size 0 0 0 0 (.pointer none) (.pointer none) false 0 := Blk.new w5 _ _
  have hb8 := below_alloc hb7 (.cells (chArr 0 0 0 0 (.pointer none) (.pointer none) false 0) 149)
  go_wp2_with fail
  generalize w5.alloc (.cells (chArr 0 0 0 0 (.pointer none) (.pointer none) false 0) 149) = w6 at *
  refine (H6.out _).mono ?_
  rintro e w7 ⟨rfl, hb9⟩
  have C7 := Blk.call C5 hb9
  have hb10 := below_chain hb9 hb8
  clear hb7 hb8 hb9 C5 H6
  go_wp2_with fail
  refine (H7.out _ _ C7).mono ?_
  rintro e w8 ⟨rfl, hb11⟩
  have C8 := Blk.call C7 hb11
  have hb12 := below_chain hb11 hb10
  clear hb10 hb11 C7 H7
  go_wp2_with fail
  refine (polkind_nil _).mono ?_
  rintro e w9 ⟨rfl, rfl⟩
  go_wp2_with fail
  refine (polset_plain 1 13 C8).mono ?_
  rintro e w10 ⟨rfl, hb13⟩
  have hb14 := below_chain hb13 hb12
  go_wp2_with fail
  go_ret
  exact ⟨rfl, hb14⟩
end Go.Proofs.Ytkpkjpdhlmjchaa
