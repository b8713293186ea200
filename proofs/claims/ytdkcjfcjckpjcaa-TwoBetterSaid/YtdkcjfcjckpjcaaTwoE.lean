/- two: Pick; the reference's Pick of the least loaded one. -/
import Derived.Test.YtdkcjfcjckpjcaaTwoD
namespace Go.Proofs.Ytdkcjfcjckpjcaa
open Go Go.RowKit Go.Deep

set_option maxHeartbeats 1000000 in
theorem two_pick (ver : Int) (l : List Bk) (A : Option Addr) (c : Nat) (g b : Nat) (M : LM) (x y : Nat) (w : World) (hr : Reads w w.heap.size 6 A l.length (l.flatMap Bk.cells)) (hl : l.length ≤ 1000000) (hx : x < 18446744073709551616) (hy : y < 18446744073709551616)
    (h : LoadAt w g b M) (hwf : ∀ x ∈ l, bkWf x) :
    Calls Try.prog 83 #[.agg #[.int .i64 ver, .slice A l.length c], .pointer (some ⟨g, 0, none⟩), .int .u64 x, .int .u64 y] w fun e w' => e = .returned (.tuple #[.int .i64 (foldB M (drawnL l [(x : Int), (y : Int)])).id, .bool (decide (0 < (drawnL l [(x : Int), (y : Int)]).length))]) ∧ Below w.heap.size w w' := by
  have B := fun D W hr hd h => two_best ver l A c g b M D 2 [(x : Int), (y : Int)] W hr hl hd (by simp) (by intro z hz; simp at hz; omega) h hwf
  obtain ⟨i, hi⟩ : ∃ i, (foldB M (drawnL l [(x : Int), (y : Int)])).id = i := ⟨_, rfl⟩
  obtain ⟨o, ho⟩ : ∃ i, decide (0 < (drawnL l [(x : Int), (y : Int)]).length) = i := ⟨_, rfl⟩
  rw [hi, ho] at B ⊢
  replace B := Lib.hid B
  clear hi ho
  have hb1 : Below w.heap.size w (w.alloc (.cells #[.int .i64 ver, .slice A l.length c] 102)) := (by repeat (first | exact Below.refl _ _ | assumption | refine below_alloc ?_ _ | refine below_chain (by assumption) ?_ | refine below_call2 (by assumption) ?_ (by first | omega | (simp; done) | (simp; omega) | (simp [World.setCell]; omega)) | refine below_drewN ?_ _ | refine Below.drew ?_ | refine Below.alloc ?_ (by first | omega | (simp; done) | (simp; omega) | (simp [World.setCell]; omega)) _ | refine Below.setCell ?_ (by first | omega | (simp; done) | (simp; omega) | (simp [World.setCell]; omega)) _))
  have hb2 : Below w.heap.size w ((w.alloc (.cells #[.int .i64 ver, .slice A l.length c] 102)).alloc (.cells #[.int .u64 x, .int .u64 y] 56)) := (by repeat (first | exact Below.refl _ _ | assumption | refine below_alloc ?_ _ | refine below_chain (by assumption) ?_ | refine below_call2 (by assumption) ?_ (by first | omega | (simp; done) | (simp; omega) | (simp [World.setCell]; omega)) | refine below_drewN ?_ _ | refine Below.drew ?_ | refine Below.alloc ?_ (by first | omega | (simp; done) | (simp; omega) | (simp [World.setCell]; omega)) _ | refine Below.setCell ?_ (by first | omega | (simp; done) | (simp; omega) | (simp [World.setCell]; omega)) _))
  have hrd := reads_lit (w.alloc (.cells #[.int .i64 ver, .slice A l.length c] 102)) ((w.alloc (.cells #[.int .i64 ver, .slice A l.length c] 102)).alloc (.cells #[.int .u64 x, .int .u64 y] 56)).heap.size 56 [.int .u64 x, .int .u64 y] (by simp)
  have hrd' : Reads ((w.alloc (.cells #[.int .i64 ver, .slice A l.length c] 102)).alloc (.cells #[.int .u64 x, .int .u64 y] 56)) ((w.alloc (.cells #[.int .i64 ver, .slice A l.length c] 102)).alloc (.cells #[.int .u64 x, .int .u64 y] 56)).heap.size 1 (some ⟨w.heap.size + 1, 0, none⟩) [(x : Int), (y : Int)].length ([(x : Int), (y : Int)].map (.int .u64)) := by simpa using hrd
  go_enter Try.func83, Try.ntmps83
  go_wp2_with fail
  refine (B.out _ _ ((hr.below hb2).more hb2.size) hrd' (h.call hb2)).mono ?_
  rintro e w1 ⟨rfl, hb3⟩
  go_wp2_with fail
  go_ret2
  exact ⟨rfl, (by repeat (first | exact Below.refl _ _ | assumption | refine below_alloc ?_ _ | refine below_chain (by assumption) ?_ | refine below_call2 (by assumption) ?_ (by first | omega | (simp; done) | (simp; omega) | (simp [World.setCell]; omega)) | refine below_drewN ?_ _ | refine Below.drew ?_ | refine Below.alloc ?_ (by first | omega | (simp; done) | (simp; omega) | (simp [World.setCell]; omega)) _ | refine Below.setCell ?_ (by first | omega | (simp; done) | (simp; omega) | (simp [World.setCell]; omega)) _))⟩

set_option maxRecDepth 100000 in
set_option maxHeartbeats 4000000 in
theorem ref27_pick (l : List Bk) (A : Option Addr) (c g : Nat) (M : LM) (w : World) (hr : Reads w w.heap.size 6 A l.length (l.flatMap Bk.cells)) (hl : l.length ≤ 1000000) (h : RLoadAt w g M) (hM : M.length ≤ 1000000) :
    Calls Try.prog 117 #[.slice A l.length c, .pointer (some ⟨g, 0, none⟩)] w fun e w' => e = .returned (.tuple #[.int .i64 (foldB M l).id, .bool (decide (0 < l.length))]) ∧ ∃ n, w' = w.drewN n := by
  go_enter Try.func117, Try.ntmps117
  go_wp2_with fail
  go_loopw [6, 7] (fun t i wr => ∃ (k : Nat) (j : Int) (n : Nat), k ≤ l.length ∧ i = .int .i64 (k : Nat) ∧ t = .int .i64 j ∧ wr = w.drewN n ∧ ((k = 0 ∧ j = -1) ∨ ∃ q : Nat, j = (q : Int) ∧ q < k ∧ l[q]? = some (foldB M (l.take k)))) (fun _ i _ => l.length - (intOf i).toNat)
  case atStart => exact ⟨0, -1, 0, by omega, rfl, rfl, rfl, .inl ⟨rfl, rfl⟩⟩
  case round =>
    obtain ⟨k, j, n, hk, rfl, rfl, rfl, hJ⟩ := hrel
    by_cases hlt : k < l.length
    · have hlti : (k : Int) < (l.length : Int) := by omega
      have hrv : Reads (w.drewN n) (w.drewN n).heap.size 6 A l.length (l.flatMap Bk.cells) := hr
      have hv : RLoadAt (w.drewN n) g M := h
      obtain ⟨W, hW⟩ : ∃ W, w.drewN n = W := ⟨_, rfl⟩
      rw [hW] at hrv hv ⊢
      replace hW := Lib.hid hW
      obtain ⟨ad, x, rfl, hbl, hx, c0, c1, -⟩ := bk_at hrv hlt
      have hstep := foldB_take M l k x hx
      rcases hJ with ⟨rfl, rfl⟩ | ⟨q, rfl, hq, hqx⟩
      · rw [if_pos rfl] at hstep
        replace hstep := Lib.hid hstep
        replace hx := Lib.hid hx
        clear c0 c1 hr h hrv hv
        go_wp2_with fail
        go_quiet (fail)
        go_wp2_with fail
        go_roundw
        case rel => exact ⟨1, 0, _, by omega, rfl, rfl, by rw [← hW.out]; exact World.drewN_drewN _ _ _, .inr ⟨0, rfl, by omega, by rw [hstep.out]; exact hx.out⟩⟩
        case measure => simp [intOf]; omega
      · rw [if_neg (by omega)] at hstep
        obtain ⟨ad', y, had, hbl2, hy, d0, d1, -⟩ := bk_at hrv (k := q) (by omega)
        cases had
        rw [hqx] at hy
        have hfy : foldB M (l.take k) = y := by simpa using hy
        rw [hfy] at hstep hqx
        have G1 := fun n => Lib.hid (refload_get g M x.id (W.drewN n) hv hM)
        have G2 := fun n => Lib.hid (refload_get g M y.id (W.drewN n) hv hM)
        have L := fun W => refless_any (lmGet M x.id) x.w x.id (lmGet M y.id) y.w y.id W
        unfold betterB at hstep
        obtain ⟨o, ho⟩ : ∃ o, lessB (lmGet M x.id) x.w x.id (lmGet M y.id) y.w y.id = o := ⟨_, rfl⟩
        rw [ho] at hstep L
        replace G1 := Lib.hid G1
        replace G2 := Lib.hid G2
        replace L := Lib.hid L
        replace ho := Lib.hid ho
        have hqi : (q : Int) < (l.length : Int) := by omega
        have hq0 : decide ((q : Int) < 0) = false := by simp
        clear hy hfy hr h hrv hv
        cases o
        · rw [if_neg (by simp)] at hstep
          replace hstep := Lib.hid hstep
          replace hx := Lib.hid hx
          replace hqx := Lib.hid hqx
          go_wp2_with fail
          go_quiet ((first | (go_at_call 114; with_reducible exact Calls.quiet_of_same (still_of (G1.out _).out)) | (go_at_call 114; with_reducible exact Calls.quiet_of_same (still_of (G2.out _).out)) | (go_at_call 130; with_reducible exact Calls.quiet_of_same (still_of (L.out _)))))
          go_wp2_with fail
          go_roundw
          case rel => exact ⟨k + 1, q, _, by omega, by go_num, rfl, by rw [← hW.out]; exact World.drewN_drewN _ _ _, .inr ⟨q, rfl, by omega, by rw [hstep.out]; exact hqx.out⟩⟩
          case measure => simp [intOf]; omega
        · rw [if_pos rfl] at hstep
          replace hstep := Lib.hid hstep
          replace hx := Lib.hid hx
          replace hqx := Lib.hid hqx
          go_wp2_with fail
          go_quiet ((first | (go_at_call 114; with_reducible exact Calls.quiet_of_same (still_of (G1.out _).out)) | (go_at_call 114; with_reducible exact Calls.quiet_of_same (still_of (G2.out _).out)) | (go_at_call 130; with_reducible exact Calls.quiet_of_same (still_of (L.out _)))))
          go_wp2_with fail
          go_roundw
          case rel => exact ⟨k + 1, k, _, by omega, by go_num, rfl, by rw [← hW.out]; exact World.drewN_drewN _ _ _, .inr ⟨k, rfl, by omega, by rw [hstep.out]; exact hx.out⟩⟩
          case measure => simp [intOf]; omega
    · obtain rfl : k = l.length := by omega
      have hlti : ¬ (l.length : Int) < (l.length : Int) := by omega
      rw [List.take_length] at hJ
      rcases hJ with ⟨h0, rfl⟩ | ⟨q, rfl, hq, hqx⟩
      · obtain rfl : l = [] := List.eq_nil_of_length_eq_zero h0
        go_wp2_with fail
        go_ret2
        exact ⟨rfl, _, rfl⟩
      · obtain ⟨ad, y, rfl, hbl2, hy, d0, -⟩ := bk_at hr hq
        rw [hqx] at hy
        have hfy : foldB M l = y := by simpa using hy
        have hlo : decide (0 < l.length) = true := by simp; omega
        have hqi : (q : Int) < (l.length : Int) := by omega
        have hq0 : decide ((q : Int) < 0) = false := by simp
        replace hfy := Lib.hid hfy
        replace hlo := Lib.hid hlo
        clear hqx hy hr h
        go_wp2_with fail
        go_ret2
        exact ⟨by rw [hfy.out, hlo.out]; rfl, _, rfl⟩
end Go.Proofs.Ytdkcjfcjckpjcaa
