/- the reference's Best and Pick. -/
import Derived.Test.YtdkcjfcjckpjcaaTwoE
namespace Go.Proofs.Ytdkcjfcjckpjcaa
open Go Go.RowKit Go.Deep

set_option maxRecDepth 100000 in
set_option maxHeartbeats 4000000 in
theorem ref_best (l : List Bk) (A : Option Addr) (c : Nat) (g : Nat) (M : LM) (D : Option Addr) (d : Nat) (ds : List Int) (w : World) (hr : Reads w w.heap.size 6 A l.length (l.flatMap Bk.cells)) (hl : l.length ≤ 1000000) (hd : Reads w w.heap.size 1 D ds.length (ds.map (.int .u64))) (hdl : ds.length ≤ 1000)
    (hds : ∀ x ∈ ds, 0 ≤ x ∧ x < 18446744073709551616) (h : RLoadAt w g M) (hM : M.length ≤ 1000000) :
    Calls Try.prog 86 #[.slice A l.length c, .pointer (some ⟨g, 0, none⟩), .slice D ds.length d] w fun e w' => e = .returned (.tuple #[.int .i64 (foldB M (drawnL l ds)).id, .bool (decide (0 < (drawnL l ds).length))]) ∧ Below w.heap.size w w' := by
  have DR := fun x W hx hr => ref_draw l A c x W hx hr hl
  replace DR := Lib.hid DR
  go_enter Try.func86, Try.ntmps86
  go_wp2_with fail
  go_loopw [8, 9] (fun s i wr => ∃ (k : Nat) (P : Option Addr) (p : Nat), k ≤ ds.length ∧ i = .int .i64 (k : Nat) ∧ s = .slice P (drawnL l (ds.take k)).length p ∧ OwnB wr w.heap.size P p (drawnL l (ds.take k)) ∧ Below w.heap.size w wr) (fun _ i _ => ds.length - (intOf i).toNat)
  case atStart => exact ⟨0, none, 0, by omega, rfl, by simp [drawnL], (by
    have : drawnL l (ds.take 0) = [] := by simp [drawnL]
    rw [this]; exact OwnA.nil _ _), Below.refl _ _⟩
  case round =>
    obtain ⟨k, P, p, hk, rfl, rfl, hO, hb⟩ := hrel
    by_cases hlt : k < ds.length
    · have hlti : (k : Int) < (ds.length : Int) := by omega
      obtain ⟨ad, rfl, hbl, hc0⟩ := hd.intk_at hlt
      have hstep := drawnL_succ l ds k hlt
      obtain ⟨x, hx⟩ : ∃ x, ds.getD k 0 = x := ⟨_, rfl⟩
      have hxr := hds x (by rw [← hx, List.getD_eq_getElem?_getD, List.getElem?_eq_getElem hlt]; exact List.getElem_mem hlt)
      rw [hx] at hc0 hstep
      obtain ⟨x, rfl⟩ := Int.eq_ofNat_of_zero_le hxr.1
      rw [Int.toNat_natCast] at hstep
      have hc := (hb.cell (by rw [block_of_add]; exact hbl)).trans hc0
      have hrr : Reads wr wr.heap.size 6 A l.length (l.flatMap Bk.cells) := (hr.below hb).more hb.size
      have hol : (drawnL l (ds.take k)).length ≤ 1000 := by
        have := drawnL_len l (ds.take k)
        have : (ds.take k).length ≤ k := List.length_take_le _ _
        omega
      have DX := DR.out x wr (by omega) hrr
      have hzB := hb.size
      by_cases h0 : l.length = 0
      · rw [if_pos h0] at hstep
        have e1 : drawnL l (ds.take k) = [] := by unfold drawnL; rw [if_pos h0]
        have hdo : drawOk l = false := by simp [drawOk, h0]
        rw [hdo] at DX
        generalize drawB l x = y at *
        obtain ⟨yi, yw, ys, yv, yh, yo⟩ := y
        rw [e1]
        rw [e1] at hO
        unfold Bk.val at DX
        dsimp only at DX
        replace DX := Lib.hid DX
        replace hstep := Lib.hid hstep
        replace hx := Lib.hid hx
        replace e1 := Lib.hid e1
        replace h0 := Lib.hid h0
        clear hdo hol
        go_wp2_with (first
          | (go_at_call 82; with_reducible refine DX.out.mono ?_; rintro e w1 ⟨rfl, hb1⟩; have hO1 := hO.call hb1; have hb2 := below_chain hb1 hb; have hz2 := hb2.size))
        go_roundw
        case rel => exact ⟨k + 1, P, p, by omega, by go_num, by rw [hstep.out]; rfl, by rw [hstep.out]; exact hO1.alloc _, below_alloc hb2 _⟩
        case measure => simp [intOf]; omega
      · rw [if_neg h0] at hstep
        have hdo : drawOk l = true := by simp [drawOk, h0]
        rw [hdo] at DX
        generalize drawB l x = y at *
        obtain ⟨yi, yw, ys, yv, yh, yo⟩ := y
        generalize drawnL l (ds.take k) = L at *
        unfold Bk.val at DX
        dsimp only at DX
        replace DX := Lib.hid DX
        replace hstep := Lib.hid hstep
        replace hx := Lib.hid hx
        clear hdo
        go_wp2_with (first
          | (go_at_call 82; with_reducible refine DX.out.mono ?_; rintro e w1 ⟨rfl, hb1⟩; have hO1 := hO.call hb1; have hb2 := below_chain hb1 hb; have hz2 := hb2.size)
          | (at_builtin; (refine wpList_push_bk rfl (.tmp 28) (.tmp 30) rfl w.heap.size P p L ⟨yi, yw, ys, yv, yh, yo⟩ L.length rfl rfl (hO1.alloc _) _ (by simp) rfl rfl (by omega) (by simp; omega) ?_; intro P1 p1 w2 ho1 hp1; have hb3 := hp1.below (below_alloc hb2 _) (by simp; omega) (fun b hb => (hO1.block hb).1))))
        go_roundw
        case rel => exact ⟨k + 1, P1, p1, by omega, by go_num, by rw [hstep.out]; simp, by rw [hstep.out]; exact ho1, hb3⟩
        case measure => simp [intOf]; omega
    · obtain rfl : k = ds.length := by omega
      have hlti : ¬ (ds.length : Int) < (ds.length : Int) := by omega
      rw [List.take_length] at hO ⊢
      have hlen := drawnL_len l ds
      have hLr := h.call hb
      have PK := fun A c W hr hl h => ref27_pick (drawnL l ds) A c g M W hr hl h hM
      obtain ⟨L, hL⟩ : ∃ L, drawnL l ds = L := ⟨_, rfl⟩
      rw [hL] at PK hO hlen ⊢
      obtain ⟨y, hy⟩ : ∃ y, (foldB M L).id = y := ⟨_, rfl⟩
      rw [hy] at PK
      obtain ⟨o, ho⟩ : ∃ o, decide (0 < L.length) = o := ⟨_, rfl⟩
      rw [ho] at PK
      replace PK := Lib.hid PK
      replace hL := Lib.hid hL
      replace hy := Lib.hid hy
      replace ho := Lib.hid ho
      clear hr hd hds h
      go_wp2_with fail
      refine (PK.out _ _ _ hO.reads (by omega) hLr).mono ?_
      rintro e w2 ⟨rfl, n2, rfl⟩
      go_wp2_with fail
      go_ret2
      refine ⟨?_, (by repeat (first | exact Below.refl _ _ | assumption | refine below_alloc ?_ _ | refine below_chain (by assumption) ?_ | refine below_call2 (by assumption) ?_ (by first | omega | (simp; done) | (simp; omega) | (simp [World.setCell]; omega)) | refine below_drewN ?_ _ | refine Below.drew ?_ | refine Below.alloc ?_ (by first | omega | (simp; done) | (simp; omega) | (simp [World.setCell]; omega)) _ | refine Below.setCell ?_ (by first | omega | (simp; done) | (simp; omega) | (simp [World.setCell]; omega)) _))⟩
      rw [hL.out, hy.out, ho.out]
      rfl

set_option maxHeartbeats 1000000 in
theorem ref_pick (l : List Bk) (A : Option Addr) (c : Nat) (g : Nat) (M : LM) (x y : Nat) (w : World) (hr : Reads w w.heap.size 6 A l.length (l.flatMap Bk.cells)) (hl : l.length ≤ 1000000) (hx : x < 18446744073709551616) (hy : y < 18446744073709551616)
    (h : RLoadAt w g M) (hM : M.length ≤ 1000000) :
    Calls Try.prog 84 #[.slice A l.length c, .pointer (some ⟨g, 0, none⟩), .int .u64 x, .int .u64 y] w fun e w' => e = .returned (.tuple #[.int .i64 (foldB M (drawnL l [(x : Int), (y : Int)])).id, .bool (decide (0 < (drawnL l [(x : Int), (y : Int)]).length))]) ∧ Below w.heap.size w w' := by
  have B := fun D W hr hd h => ref_best l A c g M D 2 [(x : Int), (y : Int)] W hr hl hd (by simp) (by intro z hz; simp at hz; omega) h hM
  obtain ⟨i, hi⟩ : ∃ i, (foldB M (drawnL l [(x : Int), (y : Int)])).id = i := ⟨_, rfl⟩
  obtain ⟨o, ho⟩ : ∃ i, decide (0 < (drawnL l [(x : Int), (y : Int)]).length) = i := ⟨_, rfl⟩
  rw [hi, ho] at B ⊢
  replace B := Lib.hid B
  clear hi ho
  have hb2 : Below w.heap.size w (w.alloc (.cells #[.int .u64 x, .int .u64 y] 56)) := (by repeat (first | exact Below.refl _ _ | assumption | refine below_alloc ?_ _ | refine below_chain (by assumption) ?_ | refine below_call2 (by assumption) ?_ (by first | omega | (simp; done) | (simp; omega) | (simp [World.setCell]; omega)) | refine below_drewN ?_ _ | refine Below.drew ?_ | refine Below.alloc ?_ (by first | omega | (simp; done) | (simp; omega) | (simp [World.setCell]; omega)) _ | refine Below.setCell ?_ (by first | omega | (simp; done) | (simp; omega) | (simp [World.setCell]; omega)) _))
  have hrd : Reads (w.alloc (.cells #[.int .u64 x, .int .u64 y] 56)) (w.alloc (.cells #[.int .u64 x, .int .u64 y] 56)).heap.size 1 (some ⟨w.heap.size, 0, none⟩) [(x : Int), (y : Int)].length ([(x : Int), (y : Int)].map (.int .u64)) := reads_lit w _ 56 [.int .u64 x, .int .u64 y] (by simp)
  go_enter Try.func84, Try.ntmps84
  go_wp2_with fail
  refine (B.out _ _ ((hr.below hb2).more hb2.size) hrd (h.call hb2)).mono ?_
  rintro e w1 ⟨rfl, hb3⟩
  go_wp2_with fail
  go_ret2
  exact ⟨rfl, (by repeat (first | exact Below.refl _ _ | assumption | refine below_alloc ?_ _ | refine below_chain (by assumption) ?_ | refine below_call2 (by assumption) ?_ (by first | omega | (simp; done) | (simp; omega) | (simp [World.setCell]; omega)) | refine below_drewN ?_ _ | refine Below.drew ?_ | refine Below.alloc ?_ (by first | omega | (simp; done) | (simp; omega) | (simp [World.setCell]; omega)) _ | refine Below.setCell ?_ (by first | omega | (simp; done) | (simp; omega) | (simp [World.setCell]; omega)) _))⟩
end Go.Proofs.Ytdkcjfcjckpjcaa
