/- least: the law LeastEven, called (the check of an example is handed in). -/
import Derived.Test.YtkpkjpdhlmjchaaLeastC
import Derived.Test.YtkpkjpdhlmjchaaLeastB
namespace Go.Proofs.Ytkpkjpdhlmjchaa
open Go Go.RowKit Go.Deep

theorem blk_ne_map {w : World} {g b : Nat} {t : TypeId} {cs : Array Value} {M : LM} (h : Blk w g t cs) (hm : Imap w b M) : g ≠ b := by
  rintro rfl
  obtain ⟨es, clock, hh, _⟩ := hm
  unfold Blk at h
  rw [h] at hh
  cases hh
set_option maxRecDepth 100000 in
set_option maxHeartbeats 16000000 in
theorem leastEven_calls (AW : ∀ w : World, Calls Try.prog 20 #[] w fun e w' => e = .returned (.bool true) ∧ Below w.heap.size w w')
    (l : List Bk) (A : Option Addr) (c : Nat) (n : Nat) (w : World) (hr : Reads w w.heap.size 6 A l.length (l.flatMap Bk.cells)) (hl : l.length ≤ 9223372036854775807) (hn : n < 256) :
    Calls Try.prog 6 #[.slice A l.length c, .int .u8 (n : Int)] w fun e w' => e = .returned (.bool true) ∧ Below w.heap.size w w' := by
  have R1 := Lib.hid (law27_right 8 l A c w hr hl (by omega))
  replace AW := Lib.hid AW
  obtain ⟨K, hK⟩ : ∃ K, n % 61 = K := ⟨_, rfl⟩
  have hK60 : K < 61 := by omega
  have hm1 : ((n : Int) % 61) = (K : Int) := by omega
  have hm2 : Int.tmod (n : Int) 61 = (K : Int) := by rw [Int.tmod_eq_emod_of_nonneg (by omega)]; exact hm1
  replace hK := Lib.hid hK
  go_enter Try.func6, Try.ntmps6
  go_wp2_with fail
  refine R1.out.mono ?_
  rintro e w00 ⟨r, n0, rfl, rfl, hR⟩
  have hb0 : Below w.heap.size w (w.drewN n0) := below_drewN (Below.refl _ _) n0
  cases r
  · clear hR
    go_wp2_with (go_at_call 20; (with_reducible refine (AW.out _).mono ?_); rintro e w2 ⟨rfl, hb2⟩)
    go_ret
    exact ⟨rfl, below_chain hb2 hb0⟩
  have hL := hR (by trivial)
  clear hR R1
  by_cases h0 : l.length = 0
  · have e0 : ((l.length : Int) == 0) = true := by rw [h0]; rfl
    clear hL
    replace h0 := Lib.hid h0
    go_wp2_with (go_at_call 20; (with_reducible refine (AW.out _).mono ?_); rintro e w2 ⟨rfl, hb2⟩)
    go_ret
    exact ⟨rfl, below_chain hb2 hb0⟩
  have e0 : ((l.length : Int) == 0) = false := by rw [beq_eq_false_iff_ne]; omega
  have hl8 := hL.1
  have hwO : wOk l := fun b hb => by
    obtain ⟨j, hj, rfl⟩ := List.getElem_of_mem hb
    have h1 := hL.2.1.2 j _ (List.getElem?_eq_getElem hj)
    have h2 := hL.2.2 _ hb
    omega
  have hids := bkRight_ids hL.2.1
  have hnd := bkRight_nodup hL.2.1
  have hwf : ∀ x ∈ l, bkWf x := fun x hx => by have := hids x hx; exact wf_i64_mk (by omega) (by omega)
  have hR := fun W (hb : Below w.heap.size w W) => (show Reads W W.heap.size 6 A l.length (l.flatMap Bk.cells) from (hr.below hb).more hb.size)
  have hstart := even_nil l hwO
  have hstep := fun M k h hk => even_step (M := M) (l := l) (k := k) h hk hwO hnd hids (by omega)
  have hpick := fun M (hp : lmPos M) => foldB_pick (M := M) hp hwO (by omega)
  replace hR := Lib.hid hR
  replace hstep := Lib.hid hstep
  replace hpick := Lib.hid hpick
  replace hwf := Lib.hid hwf
  replace hids := Lib.hid hids
  replace hwO := Lib.hid hwO
  replace hL := Lib.hid hL
  replace hnd := Lib.hid hnd
  replace hstart := Lib.hid hstart
  clear hr hl
  generalize w.drewN n0 = w1 at *
  have N := Lib.hid load_new
  go_wp2_with fail
  refine (N.out _).mono ?_
  rintro e w2 ⟨g, b, rfl, hLd, hgw, hbw, hb2⟩
  have hbA := below_chain hb2 hb0
  have hzA := hbA.size
  have hz0 := hb0.size
  clear N hb2 hb0
  go_upto_region 5 with (fail)
  have hLd2 := hLd.alloc (.cells #[.int .i64 0, .slice A l.length c] 36)
  have S2 := Blk.new w2 36 #[.int .i64 0, .slice A l.length c]
  have hbB := below_alloc hbA (.cells #[.int .i64 0, .slice A l.length c] 36)
  have hgs : w.heap.size ≤ w2.heap.size := hzA
  clear hLd hbA
  generalize w2.alloc (.cells #[.int .i64 0, .slice A l.length c] 36) = w3 at *
  generalize w2.heap.size = gs at *
  go_wp2_with fail
  go_loopw [7] (fun i wr => ∃ (k : Nat) (M : LM), k ≤ K ∧ i = .int .i64 (k : Nat) ∧ LoadAt wr g b M ∧ Even M l k ∧ Blk wr gs 36 #[.int .i64 0, .slice A l.length c] ∧ Below w.heap.size w wr) (fun i _ => K - (intOf i).toNat)
  case atStart => exact ⟨0, [], by omega, rfl, hLd2, hstart.out, S2, hbB⟩
  case round =>
    obtain ⟨k, M, hk, rfl, hA, hE, hS, hb⟩ := hrel
    clear hLd2 S2 hbB
    by_cases hlt : k < K
    · have hlti : (k : Int) < (K : Int) := by omega
      obtain ⟨hym, hmin⟩ := hpick.out M hE.good.pos
      have hE2 := hstep.out M k hE (by omega)
      have P := fun W hr h => least_pick 0 l A c g b M W hr (by omega) h hwf.out
      have e1 : leastId M l = (foldB M l).id := by unfold leastId; rw [if_pos (by omega)]
      have e2 : decide (0 < l.length) = true := by simp; omega
      rw [e1, e2] at P
      have HS := fun W hr => elig_has 0 l A c (foldB M l).id W hr (by omega)
      have hh : hasB l (foldB M l).id = true := by unfold hasB; rw [List.any_eq_true]; exact ⟨_, hym, by simp⟩
      rw [hh] at HS
      generalize foldB M l = y at *
      have hyw : (Lit.int .i64 y.id).wf = true := hwf.out y hym
      have AD := fun W h => load_add g b M y.id 1 W h hyw hE.good.pos (by have := hE.good.len; omega)
      generalize hM' : lmAdd M y.id 1 = M' at *
      have s0 := hS.cell 0
      have s1 := hS.cell 1
      simp only [List.getElem?_toArray, List.getElem?_cons_zero, List.getElem?_cons_succ] at s0 s1
      replace P := Lib.hid P
      replace HS := Lib.hid HS
      replace AD := Lib.hid AD
      replace hM' := Lib.hid hM'
      replace hmin := Lib.hid hmin
      replace hym := Lib.hid hym
      clear e1 e2 hh
      go_wp2_with fail
      refine (P.out _ (hR.out _ hb) hA).mono ?_
      rintro e w4 ⟨rfl, hb4⟩
      have hA4 := hA.call hb4
      have hS4 := hS.call hb4
      have hbC := below_chain hb4 hb
      clear hb4 hA hS hb s0 s1 P
      have s0 := hS4.cell 0
      have s1 := hS4.cell 1
      simp only [List.getElem?_toArray, List.getElem?_cons_zero, List.getElem?_cons_succ] at s0 s1
      go_wp2_with fail
      refine (HS.out _ (hR.out _ hbC)).mono ?_
      rintro e w5 ⟨rfl, hb5⟩
      have hA5 := hA4.call hb5
      have hS5 := hS4.call hb5
      have hbD := below_chain hb5 hbC
      clear hb5 hA4 hS4 hbC s0 s1 HS
      go_wp2_with fail
      obtain ⟨wo, rfl⟩ : ∃ wo : World, wo = wr := ⟨_, rfl⟩
      go_loopw [10] (fun i wr => ∃ p : Nat, p ≤ l.length ∧ i = .int .i64 (p : Nat) ∧ Below w5.heap.size w5 wr) (fun i _ => l.length - (intOf i).toNat)
      case atStart => exact ⟨0, by omega, rfl, Below.refl _ _⟩
      case round =>
        obtain ⟨p, hp, rfl, hb6⟩ := hrel
        by_cases hpl : p < l.length
        · have hpi : (p : Int) < (l.length : Int) := by omega
          go_wp2_with fail
          obtain ⟨wp, rfl⟩ : ∃ wp : World, wp = wr := ⟨_, rfl⟩
          go_loopw [11] (fun j wr => ∃ q : Nat, q ≤ l.length ∧ j = .int .i64 (q : Nat) ∧ Below w5.heap.size w5 wr) (fun j _ => l.length - (intOf j).toNat)
          case atStart => exact ⟨0, by omega, rfl, hb6⟩
          case round =>
            obtain ⟨q, hq, rfl, hb7⟩ := hrel
            by_cases hql : q < l.length
            · have hqi : (q : Int) < (l.length : Int) := by omega
              obtain ⟨ad, xi, rfl, hbl, hxi, c0, c1, -⟩ := bk_at (hR.out wr (below_chain hb7 hbD)) hpl
              obtain ⟨ad', xj, hade, hbl', hxj, d0, d1, -⟩ := bk_at (hR.out wr (below_chain hb7 hbD)) hql
              obtain rfl : ad = ad' := by simpa using hade
              have hxim := List.mem_of_getElem? hxi
              have hxjm := List.mem_of_getElem? hxj
              have hless := hmin.out xj hxjm
              unfold lessM at hless
              have G1 := fun (W : World) (h : Below wr.heap.size wr W) => load_get g b M xj.id W ((hA5.call hb7).call h) (hwf.out xj hxjm)
              have G2 := fun (W : World) (h : Below wr.heap.size wr W) => load_get g b M y.id W ((hA5.call hb7).call h) hyw
              have L1 := fun W => less_any (lmGet M xj.id) xj.w xj.id (lmGet M y.id) y.w y.id W
              rw [hless] at L1
              have hsame : xi.id = y.id → xi.w = y.w := by
                intro e
                obtain ⟨i1, hi1, rfl⟩ := List.getElem_of_mem hxim
                obtain ⟨j1, hj1, hy⟩ := List.getElem_of_mem hym.out
                rw [← hy] at e ⊢
                have : i1 = j1 := (List.getElem_inj (xs := l.map Bk.id) (h₀ := by simpa using hi1) (h₁ := by simpa using hj1) hnd.out).1 (by simpa using e)
                subst this; rfl
              generalize lmGet M xj.id = gj at *
              generalize lmGet M y.id = gy at *
              obtain ⟨xii, xiw, xis, xiv, xih, xio⟩ := xi
              obtain ⟨xji, xjw, xjs, xjv, xjh, xjo⟩ := xj
              dsimp only at *
              replace G1 := Lib.hid G1
              replace G2 := Lib.hid G2
              replace L1 := Lib.hid L1
              replace hxi := Lib.hid hxi
              replace hxj := Lib.hid hxj
              clear hade hxim hxjm hless
              have hzr := hb7.size
              by_cases he : xii = y.id
              · have heb : (xii == y.id) = true := by simpa using he
                obtain rfl := hsame he
                replace he := Lib.hid he
                clear hsame
                go_wp2_with fail
                go_region_held3 (fun w' => Below wr.heap.size wr w' ∧ w'.cell? (ad.add (p * 6)) = some (.int .i64 xii) ∧ w'.cell? ⟨(ad.add (p * 6)).block, (ad.add (p * 6)).off + 1, none⟩ = some (.int .i64 y.w) ∧ w'.cell? (ad.add (q * 6)) = some (.int .i64 xji) ∧ w'.cell? ⟨(ad.add (q * 6)).block, (ad.add (q * 6)).off + 1, none⟩ = some (.int .i64 xjw)) ((first | assumption | ((refine ⟨?_, ?_⟩; (first | assumption | exact (Below.refl _ _).drew | exact Below.refl _ _); go_keep)))) (first
                  | (go_at_call 35; (with_reducible refine (G1.out _ (by first | exact (by assumption : _ ∧ _).1 | exact Below.refl _ _)).mono ?_); rintro e w6 ⟨rfl, rfl⟩)
                  | (go_at_call 35; (with_reducible refine (G2.out _ (by first | exact (by assumption : _ ∧ _).1 | exact Below.refl _ _)).mono ?_); rintro e w6 ⟨rfl, rfl⟩)
                  | (go_at_call 34; (with_reducible refine (L1.out _).mono ?_); rintro e w6 ⟨rfl, hb8⟩; have hS := hold4 (by assumption) hb8))
                all_goals
                  have hb9 := below_chain hS.1 hb7
                  clear hS
                  go_wp2_with fail
                  go_roundw
                  case rel => exact ⟨q + 1, by omega, by go_num, hb9⟩
                  case measure => simp [intOf]; omega
              · have heb : (xii == y.id) = false := by simpa using he
                replace he := Lib.hid he
                clear hsame
                go_wp2_with fail
                go_quiet (fail)
                have hb9 : Below w5.heap.size w5 (wr.drewN nq) := below_drewN hb7 nq
                go_wp2_with fail
                go_roundw
                case rel => exact ⟨q + 1, by omega, by go_num, hb9⟩
                case measure => simp [intOf]; omega
            · obtain rfl : q = l.length := by omega
              have hqi : ¬ (l.length : Int) < (l.length : Int) := by omega
              go_wp2_with fail
              go_roundw
              case rel => exact ⟨p + 1, by omega, by go_num, hb7⟩
              case measure => simp [intOf]; omega
        · obtain rfl : p = l.length := by omega
          have hpi : ¬ (l.length : Int) < (l.length : Int) := by omega
          have hA6 := hA5.call hb6
          have hS6 := hS5.call hb6
          have hbE := below_chain hb6 hbD
          clear hA5 hS5 hbD hb6
          go_wp2_with fail
          refine (AD.out _ hA6).mono ?_
          rintro e w7 ⟨rfl, hA7, hc7⟩
          have hS7 := hS6.chg hc7 (blk_ne_map hS6 hA6.2)
          have hbF := below_chg hbE hc7 (fun b' hb' e => by omega) hbE.size
          clear hA6 hS6 hc7 hbE AD
          have hz7 := hbF.size
          replace hS7 := Lib.hid hS7
          go_wp2_with fail
          obtain ⟨wq, rfl⟩ : ∃ wq : World, wq = wr := ⟨_, rfl⟩
          go_loopw [12] (fun i wr => ∃ p : Nat, p ≤ l.length ∧ i = .int .i64 (p : Nat) ∧ LoadAt wr g b M' ∧ Below w7.heap.size w7 wr) (fun i _ => l.length - (intOf i).toNat)
          case atStart => exact ⟨0, by omega, rfl, hA7, Below.refl _ _⟩
          case round =>
            obtain ⟨p, hp, rfl, hA8, hb8⟩ := hrel
            by_cases hpl : p < l.length
            · have hpi : (p : Int) < (l.length : Int) := by omega
              go_wp2_with fail
              obtain ⟨wp, rfl⟩ : ∃ wp : World, wp = wr := ⟨_, rfl⟩
              go_loopw [13] (fun j wr => ∃ q : Nat, q ≤ l.length ∧ j = .int .i64 (q : Nat) ∧ LoadAt wr g b M' ∧ Below w7.heap.size w7 wr) (fun j _ => l.length - (intOf j).toNat)
              case atStart => exact ⟨0, by omega, rfl, hA8, hb8⟩
              case round =>
                obtain ⟨q, hq, rfl, hA9, hb9⟩ := hrel
                by_cases hql : q < l.length
                · have hqi : (q : Int) < (l.length : Int) := by omega
                  obtain ⟨ad, xi, rfl, hbl, hxi, c0, c1, -⟩ := bk_at (hR.out wr (below_chain hb9 hbF)) hpl
                  obtain ⟨ad', xj, hade, hbl', hxj, d0, d1, -⟩ := bk_at (hR.out wr (below_chain hb9 hbF)) hql
                  obtain rfl : ad = ad' := by simpa using hade
                  have hxim := List.mem_of_getElem? hxi
                  have hxjm := List.mem_of_getElem? hxj
                  have hinv := hE2.inv xi hxim xj hxjm
                  have wi := hwO.out xi hxim
                  have wj := hwO.out xj hxjm
                  have gi1 := lmGet_rng hE2.good.pos xi.id
                  have gj1 := lmGet_rng hE2.good.pos xj.id
                  have G1 := fun n => Lib.hid (load_get g b M' xi.id (wr.drewN n) hA9 (hwf.out xi hxim))
                  have G2 := fun n => Lib.hid (load_get g b M' xj.id (wr.drewN n) hA9 (hwf.out xj hxjm))
                  generalize lmGet M' xi.id = gi at *
                  generalize lmGet M' xj.id = gj at *
                  obtain ⟨xii, xiw, xis, xiv, xih, xio⟩ := xi
                  obtain ⟨xji, xjw, xjs, xjv, xjh, xjo⟩ := xj
                  dsimp only at *
                  have m1 := mul_rng gj1.1 gj1.2 wi.1 wi.2
                  have m2 := mul_rng gi1.1 gi1.2 wj.1 wj.2
                  have m3 : (gi - 1) * xjw = gi * xjw - xjw := by rw [Int.sub_mul]; omega
                  have w1' : IntKind.i64.wrap (gi - 1) = gi - 1 := i64_id _ (by omega)
                  have w2' : IntKind.i64.wrap ((gi - 1) * xjw) = (gi - 1) * xjw := i64_id _ (by omega)
                  have w3' : IntKind.i64.wrap (gj * xiw) = gj * xiw := i64_id _ (by omega)
                  have w4' : decide (gj * xiw < (gi - 1) * xjw) = false := by simpa using hinv
                  replace G1 := Lib.hid G1
                  replace G2 := Lib.hid G2
                  replace hxi := Lib.hid hxi
                  replace hxj := Lib.hid hxj
                  clear hade hxim hxjm hinv m1 m2 m3
                  go_wp2_with fail
                  go_quiet ((first | (go_at_call 35; with_reducible exact Calls.quiet_of_same (still_of (G1.out _).out)) | (go_at_call 35; with_reducible exact Calls.quiet_of_same (still_of (G2.out _).out))))
                  have hA10 : LoadAt (wr.drewN nq) g b M' := hA9
                  have hb10 : Below w7.heap.size w7 (wr.drewN nq) := below_drewN hb9 nq
                  clear w1' w2' w3' c0 c1 d0 d1 hA9 hb9 G1 G2
                  generalize wr.drewN nq = wz at *
                  go_wp2_with fail
                  go_roundw
                  case rel => exact ⟨q + 1, by omega, by go_num, hA10, hb10⟩
                  case measure => simp [intOf]; omega
                · obtain rfl : q = l.length := by omega
                  have hqi : ¬ (l.length : Int) < (l.length : Int) := by omega
                  go_wp2_with fail
                  go_roundw
                  case rel => exact ⟨p + 1, by omega, by go_num, hA9, hb9⟩
                  case measure => simp [intOf]; omega
            · obtain rfl : p = l.length := by omega
              have hpi : ¬ (l.length : Int) < (l.length : Int) := by omega
              have hS9 := hS7.out.call hb8
              have hbG := below_chain hb8 hbF
              go_wp2_with fail
              go_roundw
              case rel => exact ⟨k + 1, M', by omega, by go_num, hA8, hE2, hS9, hbG⟩
              case measure => simp [intOf]; omega
    · obtain rfl : k = K := by omega
      have hlti : ¬ (k : Int) < (k : Int) := by omega
      have T := load_total g b M wr hA hE.good.sorted hE.good.pos hE.good.wf (by have := hE.good.len; omega)
      rw [hE.sum] at T
      have hkk : ((k : Int) == (k : Int)) = true := by simp
      replace T := Lib.hid T
      clear hA hS hE
      go_wp2_with fail
      refine T.out.mono ?_
      rintro e w8 ⟨rfl, hb8⟩
      have hbH := below_chain hb8 hb
      clear hb8 hb T
      go_wp2_with fail
      refine (AW.out _).mono ?_
      rintro e w9 ⟨rfl, hb9⟩
      go_wp2_with fail
      go_ret
      exact ⟨rfl, below_chain hb9 hbH⟩
end Go.Proofs.Ytkpkjpdhlmjchaa
