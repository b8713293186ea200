/- policy: the law's awake. policy: PolicyOne's walk. -/
import Derived.Test.YtkpkjpdhlmjchaaPolG
namespace Go.Proofs.Ytkpkjpdhlmjchaa
open Go Go.RowKit Go.Deep

theorem one_pickI {w : World} {g gt gl bl base : Nat} {kind size ka kb : Int} (M : LM) (b : Bk) (v1 : Int) (A : Option Addr) (c : Nat) (t : Tup) (X Y : Int) (hx : 0 ≤ X ∧ X < 18446744073709551616) (hy : 0 ≤ Y ∧ Y < 18446744073709551616)
    (hC : ChBlk w g kind size ka kb (.pointer (some ⟨gt, 0, none⟩)) (.pointer none) false 0) (hT : TurnAt w base gt false 0 0 []) (hbase : base ≤ w.heap.size) (hgb : base ≤ gt) (hL : LoadAt w gl bl M) (hr : Reads w w.heap.size 6 A 1 b.cells) (hag : ∀ a, A = some a → ¬ a.block = gt)
    (hp : polOk kind size = true) (hid : 1 ≤ b.id ∧ b.id ≤ 65535) (hw : 0 ≤ b.w ∧ b.w ≤ 1000) (hwf : bkWf b) :
    Calls Try.prog 41 #[.pointer (some ⟨g, 0, none⟩), .agg #[.int .i64 v1, .slice A 1 c], .pointer (some ⟨gl, 0, none⟩), t.val, .int .u64 X, .int .u64 Y] w fun e w' =>
      e = .returned (.tuple #[.int .i64 b.id, .int .i64 0]) ∧ (∃ tp so ver, ChBlk w' g kind size ka kb (.pointer (some ⟨gt, 0, none⟩)) tp so ver) ∧ Chg (CB w base g) w w' := by
  obtain ⟨x, rfl⟩ : ∃ x : Nat, X = x := ⟨X.toNat, by omega⟩
  obtain ⟨y, rfl⟩ : ∃ y : Nat, Y = y := ⟨Y.toNat, by omega⟩
  exact one_pick M b v1 A c t x y (by omega) (by omega) hC hT hbase hgb hL hr hag hp hid hw hwf
theorem cb_below {w w1 w2 : World} {base g : Nat} (h : Below base w w1) (hc : Chg (CB w1 base g) w1 w2) (hg : base ≤ g) (hs : base ≤ w1.heap.size) : Below base w w2 :=
  below_chg h hc (fun b' hb' e => by rcases e with ⟨-, e⟩ | e <;> omega) hs
set_option maxRecDepth 100000 in
set_option maxHeartbeats 8000000 in
theorem awake30 (w : World) : Calls Try.prog 39 #[] w fun e w' => e = .returned (.bool true) ∧ Below w.heap.size w w' := by
  have N1 := polnew_ok 1 13 0 0 w (by decide)
  have N2 := fun W => polnew_bad 5 13 0 0 W (by decide)
  have H6 := fun (W : World) => polpick_err (w := W) (.pointer none) 0 none 0 0 tup0 (.pointer none) 0 0 1 (by decide) (fun W' _ => ready_nil _ _ W')
  have H7 := fun (W : World) (g : Nat) (hC : ChBlk W g 0 0 0 0 (.pointer none) (.pointer none) false 0) => polhash_err (w := W) (.pointer (some ⟨g, 0, none⟩)) 0 none 0 0 tup0 1 (by decide) (fun W' hb => ready_plain _ _ (hC.call hb))
  have H2 := fun (W : World) (g gt gl bl : Nat) (A : Option Addr) hC hT hb hg hL hr ha => one_pickI (w := W) (g := g) (gt := gt) (gl := gl) (bl := bl) (base := w.heap.size) (kind := 1) (size := 13) (ka := 0) (kb := 0) [] ⟨7, 1, 0, false, 0, 0⟩ 1 A 1 tup0 0 0 (by omega) (by omega) hC hT hb hg hL hr ha (by decide) (by decide) (by decide) rfl
  unfold tup0 Tup.val at *
  dsimp only at *
  replace N1 := Lib.hid N1
  replace N2 := Lib.hid N2
  replace H2 := Lib.hid H2
  replace H6 := Lib.hid H6
  replace H7 := Lib.hid H7
  go_enter Try.func39, Try.ntmps39
  go_wp2_with fail
  refine N1.out.mono ?_
  rintro e w1 ⟨⟨gc, gn, rfl, hgc, hgn, hC, hT⟩, hb1⟩
  have R1 : Reads (w1.alloc (.cells #[.int .i64 7, .int .i64 1, .int .i64 0, .bool false, .int .u64 0, .int .u64 0] 47)) (w1.alloc (.cells #[.int .i64 7, .int .i64 1, .int .i64 0, .bool false, .int .u64 0, .int .u64 0] 47)).heap.size 6 (some ⟨w1.heap.size, 0, none⟩) 1 [.int .i64 7, .int .i64 1, .int .i64 0, .bool false, .int .u64 0, .int .u64 0] := lits_read w1 _ 6 1 _ _ rfl (by simp)
  have hv : Below w1.heap.size w1 (w1.alloc (.cells #[.int .i64 7, .int .i64 1, .int .i64 0, .bool false, .int .u64 0, .int .u64 0] 47)) := below_alloc (Below.refl _ _) _
  have hb2 := below_chain hv hb1
  have hC2 := hC.call hv
  have hT2 := hT.call hv
  have hne : ¬ w1.heap.size = gn := by
    obtain ⟨_, _, h3, _⟩ := hT
    have := h3.lt
    omega
  replace hne : ∀ a : Addr, some (⟨w1.heap.size, 0, none⟩ : Addr) = some a → ¬ a.block = gn := by
    rintro a ⟨⟩
    exact hne
  clear hv hb1 hC hT N1
  go_wp2_with fail
  generalize w1.alloc (.cells #[.int .i64 7, .int .i64 1, .int .i64 0, .bool false, .int .u64 0, .int .u64 0] 47) = w2 at *
  refine (load_new _).mono ?_
  rintro e w3 ⟨gl, bl, rfl, hL, -, -, hb3⟩
  have hb4 := below_chain hb3 hb2
  have R3 := (R1.below hb3).more hb3.size
  have hC3 := hC2.call hb3
  have hT3 := hT2.call hb3
  have hz3 := hb4.size
  clear hb3 hb2 R1 hC2 hT2
  go_wp2_with fail
  refine (H2.out _ gc gn gl bl _ hC3 hT3 hz3 hgn hL R3 hne).mono ?_
  rintro e w4 ⟨rfl, -, hc4⟩
  have hb5 := cb_below hb4 hc4 hgc hz3
  clear H2 hC3 hT3 hz3 hL R3 hne hc4 hb4
  go_wp2_with fail
  refine (N2.out _).mono ?_
  rintro e w5 ⟨rfl, hb6⟩
  have hb7 := below_chain hb6 hb5
  clear hb5 hb6 N2
  have C5 : ChBlk (w5.alloc (.cells (chArr 0 0 0 0 (.pointer none) (.pointer none) false 0) 149)) w5.heap.size 0 0 0 0 (.pointer none) (.pointer none) false 0 := Blk.new w5 _ _
  have hb8 := below_alloc hb7 (.cells (chArr 0 0 0 0 (.pointer none) (.pointer none) false 0) 149)
  go_wp2_with fail
  generalize w5.alloc (.cells (chArr 0 0 0 0 (.pointer none) (.pointer none) false 0) 149) = w6 at *
  refine (H6.out _).mono ?_
  rintro e w7 ⟨rfl, hb9⟩
  have C7 := Blk.call C5 hb9
  have hb10 := below_chain hb9 hb8
  clear hb7 hb8 hb9 C5 H6
  go_wp2_with fail
  refine (H7.out _ _ C7).mono ?_
  rintro e w8 ⟨rfl, hb11⟩
  have C8 := Blk.call C7 hb11
  have hb12 := below_chain hb11 hb10
  clear hb10 hb11 C7 H7
  go_wp2_with fail
  refine (polkind_nil _).mono ?_
  rintro e w9 ⟨rfl, rfl⟩
  go_wp2_with fail
  refine (polset_plain 1 13 C8).mono ?_
  rintro e w10 ⟨rfl, hb13⟩
  have hb14 := below_chain hb13 hb12
  go_wp2_with fail
  go_ret
  exact ⟨rfl, hb14⟩
end Go.Proofs.Ytkpkjpdhlmjchaa

namespace Go.Proofs.Ytkpkjpdhlmjchaa
open Go Go.RowKit Go.Deep

theorem cb_far {w : World} {g g' base : Nat} {kind size ka kb : Int} {tn tp : Value} {so : Bool} {ver : Int} {t : TypeId} {cs : Array Value} (h : Blk w g' t cs) (hC : ChBlk w g kind size ka kb tn tp so ver) (h1 : t ≠ 184) (h2 : t ≠ 187) (h3 : t ≠ 149) : ¬ CB w base g g' := by
  rintro (⟨⟨cs, k | k⟩, -⟩ | k)
  · exact Blk.ne_ h k h1 rfl
  · exact Blk.ne_ h k h2 rfl
  · exact Blk.ne_ h hC h3 k
theorem bd_u16x {x : Int} (h : (Lit.int .u16 x).wf = true) : 0 ≤ x ∧ x < 65536 := by
  simp [Lit.wf, IntKind.min, IntKind.max, IntKind.signed, IntKind.bits] at h
  omega
theorem bd_u64x {x : Int} (h : (Lit.int .u64 x).wf = true) : 0 ≤ x ∧ x < 18446744073709551616 := by
  simp [Lit.wf, IntKind.min, IntKind.max, IntKind.signed, IntKind.bits] at h
  omega
theorem wf_i64b {x : Int} (h : 0 ≤ x ∧ x ≤ 1000000) : (Lit.int .i64 x).wf = true := by
  simp [Lit.wf, IntKind.min, IntKind.max, IntKind.signed, IntKind.bits]
  omega
set_option maxRecDepth 100000 in
set_option maxHeartbeats 8000000 in
theorem policyOne_calls (k s ka kb : Int) (t : Tup) (x y : Int) (id wt : Int) (w : World) (hx : 0 ≤ x ∧ x < 18446744073709551616) (hy : 0 ≤ y ∧ y < 18446744073709551616) (hi : 0 ≤ id ∧ id < 65536) (hw : 0 ≤ wt ∧ wt < 65536) :
    Calls Try.prog 7 #[.agg #[.int .i64 k, .int .i64 s], .agg #[.int .u64 ka, .int .u64 kb], t.val, .int .u64 x, .int .u64 y, .int .u16 id, .int .u16 wt] w fun e w' => e = .returned (.bool true) ∧ Below w.heap.size w w' := by
  obtain ⟨w0, hw0⟩ : ∃ w0, w0 = ((w.alloc (.cells #[.int .i64 k, .int .i64 s] 80)).alloc (.cells #[.int .u64 ka, .int .u64 kb] 25)).alloc (.cells t.cells.toArray 82) := ⟨_, rfl⟩
  have hb0 : Below w.heap.size w w0 := hw0 ▸ below_alloc (below_alloc (below_alloc (Below.refl _ _) _) _) _
  have P0 : Blk w0 w.heap.size 80 #[.int .i64 k, .int .i64 s] := hw0 ▸ ((Blk.new w _ _).alloc _).alloc _
  have K0 : Blk w0 (w.heap.size + 1) 25 #[.int .u64 ka, .int .u64 kb] := by
    have := (Blk.new (w.alloc (.cells #[.int .i64 k, .int .i64 s] 80)) 25 #[.int .u64 ka, .int .u64 kb]).alloc (.cells t.cells.toArray 82)
    rw [← hw0] at this
    simpa using this
  have T0 : Blk w0 (w.heap.size + 1 + 1) 82 t.cells.toArray := by
    have := Blk.new ((w.alloc (.cells #[.int .i64 k, .int .i64 s] 80)).alloc (.cells #[.int .u64 ka, .int .u64 kb] 25)) 82 t.cells.toArray
    rw [← hw0] at this
    simpa using this
  have p0 := P0.cell 0
  have p1 := P0.cell 1
  simp only [List.getElem?_toArray, List.getElem?_cons_zero, List.getElem?_cons_succ] at p0 p1
  have R := refpolright_any k s w0
  obtain ⟨tr, htr⟩ : ∃ tr, polOk k s = tr := ⟨_, rfl⟩
  rw [htr] at R
  replace R := Lib.hid R
  have OP := fun (W : World) (g gt gl bl : Nat) (A : Option Addr) (b : Bk) hC hT hb hg hL hr ha hp hid hw' hwf => one_pickI (w := W) (g := g) (gt := gt) (gl := gl) (bl := bl) (base := w.heap.size) (kind := k) (size := s) (ka := ka) (kb := kb) [] b 3 A 1 t x y hx hy hC hT hb hg hL hr ha hp hid hw' hwf
  have NP := fun (W : World) (g gt : Nat) (tp : Value) (so : Bool) (ver : Int) (gl : Nat) (hC : ChBlk W g k s ka kb (.pointer (some ⟨gt, 0, none⟩)) tp so ver) => none_pick 4 none 0 t (.pointer (some ⟨gl, 0, none⟩)) x y hC
  have NH := fun (W : World) (g gt : Nat) (tp : Value) (so : Bool) (ver : Int) (hC : ChBlk W g k s ka kb (.pointer (some ⟨gt, 0, none⟩)) tp so ver) => none_hash 4 none 0 t hC
  obtain ⟨t1, t2, t3, t4, t5, t6, t7, t8, t9⟩ := t
  unfold Tup.val at *
  dsimp only at *
  replace OP := Lib.hid OP
  replace NP := Lib.hid NP
  replace NH := Lib.hid NH
  replace htr := Lib.hid htr
  go_enter Try.func7, Try.ntmps7
  go_wp2_with fail
  rw [← hw0]
  clear hw0
  refine R.out.mono ?_
  rintro e w1 ⟨rfl, hb1⟩
  have hb2 := below_chain hb1 hb0
  have P1 := P0.call hb1
  have K1 := K0.call hb1
  have T1 := T0.call hb1
  clear hb0 hb1 P0 K0 T0 p0 p1 R
  cases tr
  · go_wp2_with fail
    refine (awake30 _).mono ?_
    rintro e w2 ⟨rfl, hb3⟩
    have hb4 := below_chain hb3 hb2
    go_wp2_with fail
    go_ret
    exact ⟨rfl, hb4⟩
  · have p0 := P1.cell 0
    have p1 := P1.cell 1
    have k0 := K1.cell 0
    have k1 := K1.cell 1
    simp only [List.getElem?_toArray, List.getElem?_cons_zero, List.getElem?_cons_succ] at p0 p1 k0 k1
    go_wp2_with fail
    refine (polnew_ok k s ka kb _ htr.out).mono ?_
    rintro e w2 ⟨⟨gc, gn, rfl, hgc, hgn, hC, hT⟩, hb3⟩
    have hz1 := hb2.size
    have T2 := T1.call hb3
    have hb4 := below_chain hb3 hb2
    have hT' := hT.mono hz1
    clear hb3 hb2 T1 P1 K1 p0 p1 k0 k1 hT
    go_wp2_with fail
    refine (load_new _).mono ?_
    rintro e w3 ⟨gl, bl, rfl, hL, -, -, hb5⟩
    have hb6 := below_chain hb5 hb4
    have C3 := hC.call hb5
    have T3 := hT'.call hb5
    have U3 := T2.call hb5
    clear hC hT' T2 hb5 hb4
    obtain ⟨wa, hwa⟩ : ∃ wa, wa = w3.alloc (.cells #[.int .i64 (max 1 id), .int .i64 (1 + wt % 1000), .int .i64 1, .bool false, .int .u64 0, .int .u64 0] 47) := ⟨_, rfl⟩
    have hsa : wa.heap.size = w3.heap.size + 1 := by rw [hwa]; simp
    have hba : Below w3.heap.size w3 wa := hwa ▸ below_alloc (Below.refl _ _) _
    have B4 : Blk wa w3.heap.size 47 #[.int .i64 (max 1 id), .int .i64 (1 + wt % 1000), .int .i64 1, .bool false, .int .u64 0, .int .u64 0] := hwa ▸ Blk.new w3 _ _
    obtain ⟨wb, hwb⟩ : ∃ wb, wb = wa.alloc (.cells #[.int .i64 (max 1 id), .int .i64 (1 + wt % 1000), .int .i64 1, .bool false, .int .u64 0, .int .u64 0] 47) := ⟨_, rfl⟩
    have hbb : Below w3.heap.size w3 wb := hwb ▸ below_alloc hba _
    have R5 : Reads wb wb.heap.size 6 (some ⟨w3.heap.size + 1, 0, none⟩) 1 [.int .i64 (max 1 id), .int .i64 (1 + wt % 1000), .int .i64 1, .bool false, .int .u64 0, .int .u64 0] := by
      have := lits_read wa wb.heap.size 6 1 47 [.int .i64 (max 1 id), .int .i64 (1 + wt % 1000), .int .i64 1, .bool false, .int .u64 0, .int .u64 0] rfl (by rw [hwb]; simp)
      rw [hsa] at this
      rw [hwb] at this ⊢
      exact this
    have B5 : Blk wb w3.heap.size 47 #[.int .i64 (max 1 id), .int .i64 (1 + wt % 1000), .int .i64 1, .bool false, .int .u64 0, .int .u64 0] := hwb ▸ B4.alloc _
    have C5 := C3.call hbb
    have T5 := T3.call hbb
    have U5 := U3.call hbb
    have L5 := hL.call hbb
    have hb7 := below_chain hbb hb6
    have hne : ¬ w3.heap.size + 1 = gn := by
      obtain ⟨_, _, h3, _⟩ := T3
      have := h3.lt
      omega
    replace hne : ∀ a : Addr, some (⟨w3.heap.size + 1, 0, none⟩ : Addr) = some a → ¬ a.block = gn := by
      rintro a ⟨⟩
      exact hne
    subst hwa
    have u0 := U5.cell 0
    have u1 := U5.cell 1
    have u2 := U5.cell 2
    have u3 := U5.cell 3
    have u4 := U5.cell 4
    have u5 := U5.cell 5
    have u6 := U5.cell 6
    have u7 := U5.cell 7
    have u8 := U5.cell 8
    simp only [List.getElem?_toArray, List.getElem?_cons_zero, List.getElem?_cons_succ] at u0 u1 u2 u3 u4 u5 u6 u7 u8
    have c0 := B5.cell 0
    simp only [List.getElem?_toArray, List.getElem?_cons_zero] at c0
    clear hba hbb hb6 C3 T3 U3 hL B4 hsa
    rw [hwb] at u0 u1 u2 u3 u4 u5 u6 u7 u8 c0
    go_wp2_with fail
    rw [← hwb]
    clear u0 u1 u2 u3 u4 u5 u6 u7 u8 c0
    clear hwb
    have hz5 := hb7.size
    refine (OP.out _ gc gn gl bl _ ⟨max 1 id, 1 + wt % 1000, 1, false, 0, 0⟩ C5 T5 hz5 (by omega) L5 R5 hne htr.out (by dsimp only; omega) (by dsimp only; omega) (by unfold bkWf; exact wf_i64b (by dsimp only; omega))).mono ?_
    rintro e w6 ⟨rfl, ⟨tp, so, ver, C6⟩, hc6⟩
    have hb8 := cb_below hb7 hc6 (by omega) hz5
    have U6 := U5.chg hc6 (cb_far U5 C5 (by decide) (by decide) (by decide))
    have B6 := B5.chg hc6 (cb_far B5 C5 (by decide) (by decide) (by decide))
    clear C5 T5 L5 R5 hne OP U5 B5 hb7 hc6
    have u0 := U6.cell 0
    have u1 := U6.cell 1
    have u2 := U6.cell 2
    have u3 := U6.cell 3
    have u4 := U6.cell 4
    have u5 := U6.cell 5
    have u6 := U6.cell 6
    have u7 := U6.cell 7
    have u8 := U6.cell 8
    simp only [List.getElem?_toArray, List.getElem?_cons_zero, List.getElem?_cons_succ] at u0 u1 u2 u3 u4 u5 u6 u7 u8
    go_wp2_with fail
    refine (NP.out _ gc gn tp so ver gl C6).mono ?_
    rintro e w7 ⟨rfl, hb9⟩
    have C7 := Blk.call C6 hb9
    have U7 := U6.call hb9
    have B7 := B6.call hb9
    have hb10 := below_chain hb9 hb8
    clear C6 U6 B6 hb8 hb9 NP u0 u1 u2 u3 u4 u5 u6 u7 u8
    have u0 := U7.cell 0
    have u1 := U7.cell 1
    have u2 := U7.cell 2
    have u3 := U7.cell 3
    have u4 := U7.cell 4
    have u5 := U7.cell 5
    have u6 := U7.cell 6
    have u7 := U7.cell 7
    have u8 := U7.cell 8
    simp only [List.getElem?_toArray, List.getElem?_cons_zero, List.getElem?_cons_succ] at u0 u1 u2 u3 u4 u5 u6 u7 u8
    go_wp2_with fail
    refine (NH.out _ gc gn tp so ver C7).mono ?_
    rintro e w8 ⟨rfl, hb11⟩
    have B8 := B7.call hb11
    have hb12 := below_chain hb11 hb10
    clear C7 U7 B7 hb10 hb11 NH u0 u1 u2 u3 u4 u5 u6 u7 u8
    have c0 := B8.cell 0
    simp only [List.getElem?_toArray, List.getElem?_cons_zero] at c0
    go_wp2_with fail
    refine (awake30 _).mono ?_
    rintro e w9 ⟨rfl, hb13⟩
    have hb14 := below_chain hb13 hb12
    go_wp2_with fail
    go_ret
    exact ⟨rfl, hb14⟩
end Go.Proofs.Ytkpkjpdhlmjchaa
