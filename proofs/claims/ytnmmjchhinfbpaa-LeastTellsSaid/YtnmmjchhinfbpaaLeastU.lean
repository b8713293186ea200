/- least: Order. -/
import Derived.Test.YtnmmjchhinfbpaaLeastT
import Derived.Laws.MakeOwn
import Derived.Deep.CutRange
import Derived.Deep.CutBlock
namespace Go.Proofs.Ytnmmjchhinfbpaa
open Go Go.RowKit Go.Deep

theorem OwnA.base {α : Type} {cells : α → List Value} {m : Nat} {e : TypeId} {w : World} {base base' : Nat} {A : Option Addr} {c : Nat} {l : List α} (h : OwnA cells m e w base A c l) (hb : base' ≤ base) : OwnA cells m e w base' A c l := by
  unfold OwnA at h ⊢
  refine ⟨h.1, ?_⟩
  rcases h.2 with h0 | ⟨g, cap, cur, h1, hg, r⟩
  · exact .inl h0
  · exact .inr ⟨g, cap, cur, h1, by omega, r⟩
theorem stable_none (A : Option Addr) (c gc : Nat) (w : World) : Calls Try.prog 61 #[.slice A 0 c, ordFn gc] w fun e w' => e = .returned (.tuple #[]) ∧ w = w' := by
  have IN : ∀ W, Calls Try.prog 109 #[.slice A 0 c, .int .i64 0, .int .i64 0, ordFn gc] W fun e w' => e = .returned (.tuple #[]) ∧ W = w' := by
    intro W
    go_enter Try.func109, Try.ntmps109
    go_wp2_with fail
    refine wp_loop_rounds 1 ?_
    rw [rounds_succ]
    go_wp2_with fail
    go_end0
    exact ⟨rfl, rfl⟩
  have ST : ∀ W, Calls Try.prog 87 #[.slice A 0 c, .int .i64 0, ordFn gc] W fun e w' => e = .returned (.tuple #[]) ∧ W = w' := by
    intro W
    replace IN := Lib.hid IN
    go_enter Try.func87, Try.ntmps87
    go_wp2_with fail
    refine wp_loop_rounds 1 ?_
    rw [rounds_succ]
    go_wp2_with fail
    refine (IN.out _).mono ?_
    rintro e w1 ⟨rfl, rfl⟩
    go_wp2_with fail
    refine wp_loop_rounds 1 ?_
    rw [rounds_succ]
    go_wp2_with fail
    go_end0
    exact ⟨rfl, rfl⟩
  clear IN
  replace ST := Lib.hid ST
  go_enter Try.func61, Try.ntmps61
  go_wp2_with fail
  refine (ST.out _).mono ?_
  rintro e w1 ⟨rfl, rfl⟩
  go_wp2_with fail
  go_end0
  exact ⟨rfl, rfl⟩
set_option maxRecDepth 100000 in
set_option maxHeartbeats 8000000 in
theorem lorder_all (ver : Int) (l : List Bk) (A : Option Addr) (c g b : Nat) (M : LM) (w : World) (hr : Reads w w.heap.size 6 A l.length (l.flatMap Bk.cells)) (hl : l.length ≤ 12) (h : LoadAt w g b M) (hB : ∀ x ∈ l, bkWf x ∧ bearB (lmGet M x.id) x.w = true) :
    Calls Try.prog 25 #[.agg #[.int .i64 ver, .slice A l.length c], .pointer (some ⟨g, 0, none⟩)] w fun e w' => ∃ (A' : Option Addr) (c' : Nat) (S : List Bk), e = .returned (.slice A' l.length c') ∧ S.Perm l ∧ sortedB M S ∧ OwnI w' w.heap.size A' c' (S.map Bk.id) ∧ Below w.heap.size w w' := by
  have B0 := Blk.new w 37 #[.int .i64 ver, .slice A l.length c]
  have hb0 : Below w.heap.size w (w.alloc (.cells #[.int .i64 ver, .slice A l.length c] 37)) := below_alloc (Below.refl _ _) _
  have s1 := B0.cell 1
  simp only [List.getElem?_toArray, List.getElem?_cons_zero, List.getElem?_cons_succ] at s1
  have K := fun W (hb : Below w.heap.size w W) => clone_bk A c l W ((hr.below hb).more hb.size) (by omega)
  have OR := fun W => order_any (some ⟨g, 0, none⟩) W
  obtain ⟨i0, hi0, hz0, hz1, hz2⟩ := info_parts info_int
  replace K := Lib.hid K
  replace OR := Lib.hid OR
  have hlt := h.lt
  replace hr := Lib.hid hr
  go_enter Try.func25, Try.ntmps25
  go_wp2_with fail
  generalize w.alloc (.cells #[.int .i64 ver, .slice A l.length c] 37) = w0 at *
  refine (K.out _ hb0).mono ?_
  rintro e w1 ⟨A1, c1, rfl, hO, hb1⟩
  have hb2 := below_chain hb1 hb0
  have hL1 := h.call hb2
  clear K B0 s1
  replace hO := Lib.hid hO
  go_wp2_with fail
  refine (OR.out _).mono ?_
  rintro e w2 ⟨rfl, rfl⟩
  have hc2 : (w1.alloc (.cells #[.pointer (some ⟨g, 0, none⟩)] 57)).cell? ⟨w1.heap.size, 0, none⟩ = some (.pointer (some ⟨g, 0, none⟩)) := (Blk.new w1 57 #[.pointer (some ⟨g, 0, none⟩)]).cell 0
  have hb3 := below_alloc hb2 (.cells #[.pointer (some ⟨g, 0, none⟩)] 57)
  have hL3 := h.call hb3
  have hO3 := hO.out.alloc (.cells #[.pointer (some ⟨g, 0, none⟩)] 57)
  have hz1s := hb2.size
  have hz0s := hb0.size
  by_cases hl0 : l.length = 0
  · obtain rfl : l = [] := List.eq_nil_of_length_eq_zero hl0
    clear hc2 hL1 hL3 hO hO3 hB hlt h
    have SN := Lib.hid fun W => stable_none A1 c1 w1.heap.size W
    generalize w1.alloc (.cells #[.pointer (some ⟨g, 0, none⟩)] 57) = w3 at *
    obtain ⟨wm, hmk, hown, hgr⟩ := run_make_own (P := Try.prog) (w := w3) w.heap.size 69 3 i0 _ 1 Try.underlying69 hi0 hz0 hz1 .i64 .i64 0 (by omega) (by unfold maxLen; omega) hb3.size
    have hbm := hb3.grown hgr hb3.size (by simp)
    rw [show ((0 : Nat) : Int) = 0 from rfl] at hmk
    replace hown := Lib.hid hown
    generalize w1.heap.size = gc at *
    simp only [List.length_nil]
    go_wp2_with fail
    refine (SN.out _).mono ?_
    rintro e w4 ⟨rfl, rfl⟩
    go_wp2_with fail
    refine wp_loop_rounds 1 ?_
    rw [rounds_succ]
    go_wp2_with fail
    go_ret
    exact ⟨some ⟨w3.heap.size, 0, none⟩, 0, [], rfl, List.Perm.refl _, fun i j hi => by simp at hi, hown.out, hbm⟩
  · have h0 : 0 < l.length := by omega
    obtain ⟨gp, cap, hfv, hgp, hgl⟩ := (show w1.ownsRow w0.heap.size 46 6 (.slice A1 l.length c1) l.length (l.flatMap Bk.cells) from hO.out).form h0
    obtain ⟨rfl, rfl⟩ : A1 = some ⟨gp, 0, none⟩ ∧ c1 = cap := by
      simp only [Value.slice.injEq] at hfv
      exact ⟨hfv.1, hfv.2.2⟩
    have SO := stable_any hO3 (by simp; omega) h0 hl hB hc2 hL3 (by omega) (by omega) (by omega)
    replace SO := Lib.hid SO
    have hgne : gp ≥ w.heap.size := by omega
    clear hc2 hL1 hL3 hO hO3 hB h hfv hgl
    generalize w1.alloc (.cells #[.pointer (some ⟨g, 0, none⟩)] 57) = w3 at *
    generalize w1.heap.size = gc at *
    go_wp2_with fail
    refine SO.out.mono ?_
    rintro e w4 ⟨rfl, S, k1, k2, k3, k4⟩
    have hb4 := below_chg hb3 k4 (fun b hb' e => by omega) hb3.size
    have hSl := k1.length_eq
    obtain ⟨wm, hmk, hown, hgr⟩ := run_make_own (P := Try.prog) (w := w4) w4.heap.size 69 3 i0 _ 1 Try.underlying69 hi0 hz0 hz1 .i64 .i64 l.length (by rw [hz2]; omega) (by unfold maxLen; omega) (Nat.le_refl _)
    have hbm : Below w4.heap.size w4 wm := (Below.refl _ _).grown hgr (Nat.le_refl _) (by simp)
    replace hown := Lib.hid hown
    replace k1 := Lib.hid k1
    replace k2 := Lib.hid k2
    replace k3 := Lib.hid k3
    clear hb3 hz0s hz1s hb0 hb2 SO k4 hgr
    go_wp2_with fail
    clear hmk
    have hO0 : OwnI wm w4.heap.size (some ⟨w4.heap.size, 0, none⟩) l.length ((S.take 0).map Bk.id) := hown.out
    have hz4 := hbm.size
    go_loopw [6, 21] (fun ov ix wr => ∃ (k : Nat) (A2 : Option Addr) (p : Nat), k ≤ l.length ∧ ix = .int .i64 (k : Nat) ∧ ov = .slice A2 k p ∧ OwnI wr w4.heap.size A2 p ((S.take k).map Bk.id) ∧ Below w4.heap.size w4 wr) (fun _ ix _ => l.length - (intOf ix).toNat)
    case atStart => exact ⟨0, _, _, by omega, rfl, rfl, hO0, hbm⟩
    case round =>
      obtain ⟨k, A2, p, hk, rfl, rfl, hO, hb⟩ := hrel
      clear hO0 hbm hown
      by_cases hlt2 : k < l.length
      · have hlti : (k : Int) < (l.length : Int) := by omega
        obtain ⟨ad, x, hade, hbl, hx, c0, c1, c2, c3, c4, c5⟩ := bk_at (k3.out.below hb) (show k < S.length by omega)
        obtain rfl : ad = ⟨gp, 0, none⟩ := by simpa using hade.symm
        have hst : (S.take (k + 1)).map Bk.id = (S.take k).map Bk.id ++ [x.id] := by
          obtain ⟨hk', rfl⟩ := List.getElem?_eq_some_iff.1 hx
          rw [List.take_succ_eq_append_getElem hk', List.map_append]
          rfl
        have hln : ((S.take k).map Bk.id).length = k := by rw [List.length_map, List.length_take]; omega
        obtain ⟨xi, xw, xs, xv, xh, xo⟩ := x
        have ea : (⟨gp, 0, none⟩ : Addr).add (k * 6) = ⟨gp, k * 6, none⟩ := by
          simp [Addr.add]
          intro h
          omega
        rw [ea] at c0 c1 c2 c3 c4 c5
        dsimp only at c0 c1 c2 c3 c4 c5 hst
        generalize (S.take k).map Bk.id = L at *
        replace hx := Lib.hid hx
        replace hst := Lib.hid hst
        clear hade hbl
        have hOa := hO.alloc (.cells #[.int .i64 xi, .int .i64 xw, .int .i64 xs, .bool xv, .int .u64 xh, .int .u64 xo] 46)
        have hba := below_alloc hb (.cells #[.int .i64 xi, .int .i64 xw, .int .i64 xs, .bool xv, .int .u64 xh, .int .u64 xo] 46)
        have hza := hba.size
        have hn0 := (Blk.new wr 46 #[.int .i64 xi, .int .i64 xw, .int .i64 xs, .bool xv, .int .u64 xh, .int .u64 xo]).cell 0
        simp only [List.getElem?_toArray, List.getElem?_cons_zero] at hn0
        replace hOa := Lib.hid hOa
        replace hO := Lib.hid hO
        go_upto_region 7 with fail
        generalize wr.alloc (.cells #[.int .i64 xi, .int .i64 xw, .int .i64 xs, .bool xv, .int .u64 xh, .int .u64 xo] 46) = wa at *
        generalize wr.heap.size = gx at *
        clear c0 c1 c2 c3 c4 c5 hb
        go_wp2_with (first | (at_builtin; (refine wpList_push_int rfl (.tmp 25) (.tmp 28) rfl w4.heap.size A2 p L k hln rfl hOa.out _ rfl rfl (by omega) hza ?_; intro A3 p3 w7 ho7 hp7; have hb7 := hp7.below hba hza (fun b hb' => (hOa.out.block hb').1))))
        rw [← hst.out] at ho7
        go_roundw
        case rel => exact ⟨k + 1, A3, p3, by omega, by go_num, rfl, ho7, hb7⟩
        case measure => simp [intOf]; omega
      · obtain rfl : k = l.length := by omega
        have hlti : ¬ (l.length : Int) < (l.length : Int) := by omega
        rw [← hSl, List.take_length] at hO
        have hO9 := hO.base hb4.size
        have hb9 : Below w.heap.size w wr := below_chain hb hb4
        go_wp2_with fail
        go_ret
        exact ⟨A2, p, rfl, S, k1.out, k2.out, hO9, hb9⟩
end Go.Proofs.Ytnmmjchhinfbpaa
