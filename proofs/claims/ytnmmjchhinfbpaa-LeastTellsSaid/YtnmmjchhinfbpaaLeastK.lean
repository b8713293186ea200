/- least: the document's time and Quick. -/
import Derived.Test.YtnmmjchhinfbpaaLeastD
import Derived.Test.YtnmmjchhinfbpaaLeastJ
namespace Go.Proofs.Ytnmmjchhinfbpaa
open Go Go.RowKit Go.Deep

/-- A time told: an ID, a number's bits. -/
abbrev tcell (x : Int × Nat) : List Value := [.int .i64 x.1, .float .f64 x.2]
def tmOf (ts : List (Int × Nat)) (id : Int) : Nat := match ts with | [] => 0 | x :: r => if x.1 = id then x.2 else tmOf r id
theorem tmOf_hit (id : Int) : ∀ (ts : List (Int × Nat)) (k : Nat) (hk : k < ts.length), (∀ j (hj : j < ts.length), j < k → ts[j].1 ≠ id) → ts[k].1 = id → tmOf ts id = ts[k].2
  | x :: r, 0, _, _, h => by unfold tmOf; rw [if_pos (show x.1 = id from h)]; rfl
  | x :: r, k + 1, hk, hb, h => by
    unfold tmOf
    rw [if_neg (show ¬ x.1 = id from hb 0 (by simp) (by omega))]
    exact tmOf_hit id r k (by simpa using hk) (fun j hj hjk => hb (j + 1) (by simpa using hj) (by omega)) h
theorem tmOf_miss (id : Int) : ∀ (ts : List (Int × Nat)), (∀ j (hj : j < ts.length), ts[j].1 ≠ id) → tmOf ts id = 0
  | [], _ => rfl
  | x :: r, h => by
    unfold tmOf
    rw [if_neg (show ¬ x.1 = id from h 0 (by simp))]
    exact tmOf_miss id r fun j hj => h (j + 1) (by simpa using hj)
theorem tm_at {w : World} {B : Nat} {A : Option Addr} {P : List (Int × Nat)} (h : Reads w B 2 A P.length (P.flatMap tcell)) {k : Nat} (hk : k < P.length) :
    ∃ ad, A = some ad ∧ ad.block < B ∧ w.cell? (ad.add (k * 2)) = some (.int .i64 P[k].1) ∧ w.cell? ⟨(ad.add (k * 2)).block, (ad.add (k * 2)).off + 1, none⟩ = some (.float .f64 P[k].2) := by
  obtain ⟨ad, rfl, hb, hc⟩ := h.rec_at tcell (fun _ => rfl) hk
  exact ⟨ad, rfl, hb, hc 0 _ rfl, hc 1 _ rfl⟩
set_option maxHeartbeats 2000000 in
theorem reftime_any (ts : List (Int × Nat)) (A : Option Addr) (c : Nat) (id : Int) (w : World) (hr : Reads w w.heap.size 2 A ts.length (ts.flatMap tcell)) (hl : ts.length ≤ 1000000) :
    Calls Try.prog 58 #[.slice A ts.length c, .int .i64 id] w fun e w' => e = .returned (.float .f64 (tmOf ts id)) ∧ w = w' := by
  replace hr := Lib.hid hr
  go_enter Try.func58, Try.ntmps58
  go_wp2_with fail
  go_loop [5] (fun i => ∃ k : Nat, k ≤ ts.length ∧ i = .int .i64 (k : Nat) ∧ ∀ j (hj : j < ts.length), j < k → ts[j].1 ≠ id) (fun i => ts.length - (intOf i).toNat)
  case atStart => exact ⟨0, by omega, rfl, fun j hj h => by omega⟩
  case round =>
    obtain ⟨k, hk, rfl, hn⟩ := hrel
    by_cases hlt : k < ts.length
    · have hlti : (k : Int) < (ts.length : Int) := by omega
      obtain ⟨ad, rfl, hbl, c0, c1⟩ := tm_at hr.out hlt
      have hh := tmOf_hit id ts k hlt hn
      obtain ⟨xi, xt, hx⟩ : ∃ xi xt, ts[k] = (xi, xt) := ⟨_, _, rfl⟩
      rw [hx] at c0 c1 hh
      dsimp only at c0 c1 hh
      replace hx := Lib.hid hx
      replace hn := Lib.hid hn
      by_cases e : xi = id
      · have hb : (xi == id) = true := by simpa using e
        have hh := hh e
        replace hh := Lib.hid hh
        replace e := Lib.hid e
        go_wp2_with fail
        go_ret
        exact ⟨by rw [hh.out]; rfl, rfl⟩
      · have hb : (xi == id) = false := by simpa using e
        clear hh
        replace e := Lib.hid e
        go_wp2_with fail
        go_round
        case rel =>
          refine ⟨k + 1, by omega, by go_num, fun j hj hjk => ?_⟩
          by_cases e2 : j = k
          · subst e2
            rw [hx.out]
            exact e.out
          · exact hn.out j hj (by omega)
        case measure => simp [intOf]; omega
    · obtain rfl : k = ts.length := by omega
      have hlti : ¬ (ts.length : Int) < (ts.length : Int) := by omega
      have hm := tmOf_miss id ts fun j hj => hn j hj hj
      replace hm := Lib.hid hm
      replace hn := Lib.hid hn
      go_wp2_with fail
      go_ret
      exact ⟨by rw [hm.out]; rfl, rfl⟩
/-- The key of what a backend has to bear. -/
def kbOf (ts : List (Int × Nat)) (M : LM) (x : Bk) : Int := keyB (brdB (tmOf ts x.id) (lmGet M x.id) x.w)
theorem qord_lt {kx ky xi yi : Int} (h : yi < xi) : decide (qordI kx ky xi yi < 0) = decide (kx < ky) := by
  unfold qordI orI cmpI
  simp only [decide_eq_decide]
  repeat' split
  all_goals omega
set_option maxRecDepth 100000 in
set_option maxHeartbeats 8000000 in
theorem refquick_any (l : List Bk) (A : Option Addr) (c g : Nat) (M : LM) (ts : List (Int × Nat)) (T : Option Addr) (d : Nat) (w : World) (hr : Reads w w.heap.size 6 A l.length (l.flatMap Bk.cells)) (hl : l.length ≤ 1000000) (h : RLoadAt w g M) (hM : M.length ≤ 1000000)
    (ht : Reads w w.heap.size 2 T ts.length (ts.flatMap tcell)) (htl : ts.length ≤ 1000000) (htw : ∀ id, tmOf ts id < 18446744073709551616) (hids : ∀ i j (hi : i < l.length) (hj : j < l.length), i < j → l[i].id < l[j].id) :
    Calls Try.prog 23 #[.slice A l.length c, .pointer (some ⟨g, 0, none⟩), .slice T ts.length d] w fun e w' => e = .returned (.tuple #[.int .i64 (quickId (kbOf ts M) l), .bool (decide (0 < l.length))]) ∧ ∃ n, w' = w.drewN n := by
  replace hids := Lib.hid hids
  go_enter Try.func23, Try.ntmps23
  go_wp2_with fail
  go_loopw [8, 9] (fun t i wr => ∃ (k : Nat) (j : Int) (n : Nat), k ≤ l.length ∧ i = .int .i64 (k : Nat) ∧ t = .int .i64 j ∧ wr = w.drewN n ∧ ((k = 0 ∧ j = -1) ∨ ∃ q : Nat, j = (q : Int) ∧ q < k ∧ l[q]? = some (foldQ (kbOf ts M) (l.take k)))) (fun _ i _ => l.length - (intOf i).toNat)
  case atStart => exact ⟨0, -1, 0, by omega, rfl, rfl, rfl, .inl ⟨rfl, rfl⟩⟩
  case round =>
    obtain ⟨k, j, n, hk, rfl, rfl, rfl, hJ⟩ := hrel
    by_cases hlt : k < l.length
    · have hlti : (k : Int) < (l.length : Int) := by omega
      have hrv : Reads (w.drewN n) (w.drewN n).heap.size 6 A l.length (l.flatMap Bk.cells) := hr
      have hv : RLoadAt (w.drewN n) g M := h
      have htv : Reads (w.drewN n) (w.drewN n).heap.size 2 T ts.length (ts.flatMap tcell) := ht
      obtain ⟨W, hW⟩ : ∃ W, w.drewN n = W := ⟨_, rfl⟩
      rw [hW] at hrv hv htv ⊢
      replace hW := Lib.hid hW
      obtain ⟨ad, x, rfl, hbl, hx, c0, c1, -⟩ := bk_at hrv hlt
      have hstep := foldQ_take (kbOf ts M) l k x hx
      rcases hJ with ⟨rfl, rfl⟩ | ⟨q, rfl, hq, hqx⟩
      · rw [if_pos rfl] at hstep
        replace hstep := Lib.hid hstep
        replace hx := Lib.hid hx
        clear c0 c1 hr h hrv hv ht htv
        go_wp2_with fail
        go_roundw
        case rel => exact ⟨1, 0, _, by omega, rfl, rfl, hW.out.symm, .inr ⟨0, rfl, by omega, by rw [hstep.out]; exact hx.out⟩⟩
        case measure => simp [intOf]; omega
      · rw [if_neg (by omega)] at hstep
        obtain ⟨ad', y, had, hbl2, hy, d0, d1, -⟩ := bk_at hrv (k := q) (by omega)
        cases had
        rw [hqx] at hy
        have hfy : foldQ (kbOf ts M) (l.take k) = y := by simpa using hy
        rw [hfy] at hstep hqx
        have hid : y.id < x.id := by
          have e1 := (List.getElem?_eq_some_iff.1 hqx).2
          have e2 := (List.getElem?_eq_some_iff.1 hx).2
          have := hids.out q k (by omega) hlt hq
          rw [e1, e2] at this
          exact this
        unfold betterQ at hstep
        rw [qord_lt hid] at hstep
        have tx := htw x.id
        have ty := htw y.id
        have G1 := fun n => Lib.hid (refload_get g M x.id (W.drewN n) hv hM)
        have G2 := fun a n => Lib.hid (refload_get g M y.id ((W.drewN a).drewN n) hv hM)
        have T1 := fun n => Lib.hid (reftime_any ts T d x.id (W.drewN n) htv htl)
        have T2 := fun a n => Lib.hid (reftime_any ts T d y.id ((W.drewN a).drewN n) htv htl)
        have U1 := fun W => refburden_all (tmOf ts x.id) (lmGet M x.id) x.w tx W
        have U2 := fun W => refburden_all (tmOf ts y.id) (lmGet M y.id) y.w ty W
        have bx := brdB_cl (n := lmGet M x.id) (wt := x.w) tx
        have b_y := brdB_cl (n := lmGet M y.id) (wt := y.w) ty
        have hkk : kbOf ts M x < kbOf ts M y ↔ srF (brdB (tmOf ts x.id) (lmGet M x.id) x.w) < srF (brdB (tmOf ts y.id) (lmGet M y.id) y.w) := (keyB_lt bx.fin.1 b_y.fin.1 bx.zero b_y.zero).1
        rw [decide_eq_decide.2 hkk] at hstep
        have L1 := fun W => refless_all b_y bx W
        have L2 := fun W => refless_all bx b_y W
        obtain ⟨o, ho⟩ : ∃ o, decide (srF (brdB (tmOf ts x.id) (lmGet M x.id) x.w) < srF (brdB (tmOf ts y.id) (lmGet M y.id) y.w)) = o := ⟨_, rfl⟩
        obtain ⟨o1, ho1⟩ : ∃ o, decide (srF (brdB (tmOf ts y.id) (lmGet M y.id) y.w) < srF (brdB (tmOf ts x.id) (lmGet M x.id) x.w)) = o := ⟨_, rfl⟩
        rw [ho] at hstep L2
        rw [ho1] at L1
        have hoo : o = true → o1 = false := fun e => by
          rw [← ho, decide_eq_true_iff] at e
          rw [← ho1, decide_eq_false_iff_not]
          omega
        clear ho ho1 hkk bx b_y
        generalize brdB (tmOf ts x.id) (lmGet M x.id) x.w = ba at *
        generalize brdB (tmOf ts y.id) (lmGet M y.id) y.w = bb at *
        generalize tmOf ts x.id = t1 at *
        generalize tmOf ts y.id = t2 at *
        generalize lmGet M x.id = g1 at *
        generalize lmGet M y.id = g2 at *
        replace G1 := Lib.hid G1
        replace G2 := Lib.hid G2
        replace T1 := Lib.hid T1
        replace T2 := Lib.hid T2
        replace U1 := Lib.hid U1
        replace U2 := Lib.hid U2
        replace L1 := Lib.hid L1
        replace L2 := Lib.hid L2
        have hqi : (q : Int) < (l.length : Int) := by omega
        have hq0 : decide ((0 : Int) ≤ (q : Int)) = true := by simp
        have D0 : ∀ n, (W.drewN n).cell? (ad.add (q * 6)) = some (.int .i64 y.id) := fun n => d0
        have D1 : ∀ n, (W.drewN n).cell? ⟨(ad.add (q * 6)).block, (ad.add (q * 6)).off + 1, none⟩ = some (.int .i64 y.w) := fun n => d1
        replace hx := Lib.hid hx
        replace hqx := Lib.hid hqx
        clear hy hfy hr h hrv hv ht htv tx ty hid hbl hbl2 d0 d1
        obtain ⟨xi, xw, xs, xv, xh, xo⟩ := x
        obtain ⟨yi, yw, ys, yv, yh, yo⟩ := y
        dsimp only at *
        go_wp2_with fail
        go_quiet ((first | (go_at_call 50; with_reducible exact Calls.quiet_of_same (still_of (G1.out _).out)) | (go_at_call 58; with_reducible exact Calls.quiet_of_same (still_of (T1.out _).out)) | (go_at_call 29; with_reducible exact Calls.quiet_of_same (still_of (U1.out _)))))
        have e0 := D0 nq
        have e1 := D1 nq
        have WW : ∀ m, (W.drewN nq).drewN m = w.drewN (n + (nq + m)) := fun m => (World.drewN_drewN W nq m).trans (by rw [← hW.out]; exact World.drewN_drewN w n (nq + m))
        clear c0 c1 D0 D1 G1 T1 U1
        replace WW := Lib.hid WW
        have G3 := Lib.hid (G2.out nq)
        have T3 := Lib.hid (T2.out nq)
        clear G2 T2
        generalize W.drewN nq = W1 at *
        go_wp2_with fail
        go_quiet ((first | (go_at_call 50; with_reducible exact Calls.quiet_of_same (still_of (G3.out _).out)) | (go_at_call 58; with_reducible exact Calls.quiet_of_same (still_of (T3.out _).out)) | (go_at_call 29; with_reducible exact Calls.quiet_of_same (still_of (U2.out _)))))
        have WW2 := WW.out nq
        clear e0 e1 G3 T3 U2 WW
        generalize W1.drewN nq = W2 at *
        replace WW2 := Lib.hid WW2
        cases o
        · rw [if_neg (by simp)] at hstep
          replace hstep := Lib.hid hstep
          cases o1
          · go_wp2_with fail
            refine (L1.out _).mono ?_
            rintro e w1 ⟨rfl, rfl⟩
            go_wp2_with fail
            refine (L2.out _).mono ?_
            rintro e w1 ⟨rfl, rfl⟩
            go_wp2_with fail
            go_roundw
            case rel => exact ⟨k + 1, q, _, by omega, by go_num, rfl, WW2.out, .inr ⟨q, rfl, by omega, by rw [hstep.out]; exact hqx.out⟩⟩
            case measure => simp [intOf]; omega
          · go_wp2_with fail
            refine (L1.out _).mono ?_
            rintro e w1 ⟨rfl, rfl⟩
            go_wp2_with fail
            go_roundw
            case rel => exact ⟨k + 1, q, _, by omega, by go_num, rfl, WW2.out, .inr ⟨q, rfl, by omega, by rw [hstep.out]; exact hqx.out⟩⟩
            case measure => simp [intOf]; omega
        · rw [if_pos rfl] at hstep
          replace hstep := Lib.hid hstep
          obtain rfl := hoo rfl
          go_wp2_with fail
          refine (L1.out _).mono ?_
          rintro e w1 ⟨rfl, rfl⟩
          go_wp2_with fail
          refine (L2.out _).mono ?_
          rintro e w1 ⟨rfl, rfl⟩
          go_wp2_with fail
          go_roundw
          case rel => exact ⟨k + 1, k, _, by omega, by go_num, rfl, WW2.out, .inr ⟨k, rfl, by omega, by rw [hstep.out]; exact hx.out⟩⟩
          case measure => simp [intOf]; omega
    · obtain rfl : k = l.length := by omega
      have hlti : ¬ (l.length : Int) < (l.length : Int) := by omega
      rw [List.take_length] at hJ
      rcases hJ with ⟨h0, rfl⟩ | ⟨q, rfl, hq, hqx⟩
      · obtain rfl : l = [] := List.eq_nil_of_length_eq_zero h0
        go_wp2_with fail
        go_ret2
        exact ⟨rfl, _, rfl⟩
      · obtain ⟨ad, y, rfl, hbl2, hy, d0, -⟩ := bk_at hr hq
        rw [hqx] at hy
        have hfy : foldQ (kbOf ts M) l = y := by simpa using hy
        have hlo : decide (0 < l.length) = true := by simp; omega
        have hqe : quickId (kbOf ts M) l = y.id := by unfold quickId; rw [if_pos (by omega), hfy]
        replace hqe := Lib.hid hqe
        have hqi : (q : Int) < (l.length : Int) := by omega
        have hq0 : decide ((q : Int) < 0) = false := by simp
        replace hfy := Lib.hid hfy
        replace hlo := Lib.hid hlo
        clear hqx hy hr h ht
        go_wp2_with fail
        go_ret2
        exact ⟨by rw [hqe.out, hlo.out]; rfl, _, rfl⟩
end Go.Proofs.Ytnmmjchhinfbpaa
