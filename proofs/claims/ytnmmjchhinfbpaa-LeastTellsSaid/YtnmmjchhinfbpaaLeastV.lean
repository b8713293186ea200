/- least: the law LeastTells, called. -/
import Derived.Test.YtnmmjchhinfbpaaLeastN
import Derived.Test.YtnmmjchhinfbpaaOpenQ
namespace Go.Proofs.Ytnmmjchhinfbpaa
open Go Go.RowKit Go.Deep Go.Maps Go.ChangeMaps

theorem tmOf_lt {ts : List (Int × Nat)} (h : ∀ s ∈ ts, tmWf s) (id : Int) : tmOf ts id < 18446744073709551616 := by
  induction ts with
  | nil => exact Nat.zero_lt_succ _
  | cons x r ih =>
    unfold tmOf
    split
    · exact (h x (List.mem_cons_self ..)).2
    · exact ih fun s hs => h s (List.mem_cons_of_mem _ hs)
theorem tmOf_drop {ts : List (Int × Nat)} {j : Nat} (hj : j < ts.length) : (fun id => if id = ts[j].1 then ts[j].2 else tmOf (ts.drop (j + 1)) id) = fun id => tmOf (ts.drop j) id := by
  funext id
  rw [List.drop_eq_getElem_cons hj]
  show _ = if ts[j].1 = id then ts[j].2 else tmOf (ts.drop (j + 1)) id
  by_cases e : id = ts[j].1
  · rw [if_pos e, if_pos e.symm]
  · rw [if_neg e, if_neg (fun h => e h.symm)]
set_option maxRecDepth 100000 in
set_option maxHeartbeats 16000000 in
theorem leastTells_calls (l : List Bk) (A : Option Addr) (c : Nat) (ns : List Stp) (B : Option Addr) (d : Nat) (ts : List (Int × Nat)) (T : Option Addr) (q : Nat) (t : Nat) (n1 n2 : Int) (w : World) (hr : Reads w w.heap.size 6 A l.length (l.flatMap Bk.cells)) (hl : l.length ≤ 9223372036854775807)
    (hn : Reads w w.heap.size 3 B ns.length (ns.flatMap Stp.cells)) (hnl : ns.length ≤ 9223372036854775807) (hnw : ∀ s ∈ ns, stpWf s)
    (htm : Reads w w.heap.size 2 T ts.length (ts.flatMap tcell)) (htl : ts.length ≤ 9223372036854775807) (htw : ∀ s ∈ ts, tmWf s) (ht : t < 18446744073709551616) :
    Calls Try.prog 5 #[.slice A l.length c, .slice B ns.length d, .slice T ts.length q, .float .f64 t, .int .i64 n1, .int .i64 n2] w fun e w' => e = .returned (.bool true) ∧ Below w.heap.size w w' := by
  have R := law27_right 12 l A c w hr hl (by omega)
  rw [show (((12 : Nat)) : Int) = 12 from rfl] at R
  replace R := Lib.hid R
  replace hnw := Lib.hid hnw
  go_enter Try.func5, Try.ntmps5
  go_wp2_with fail
  refine R.out.mono ?_
  rintro e w0 ⟨r, n0, rfl, rfl, hR⟩
  have hb0 : Below w.heap.size w (w.drewN n0) := below_drewN (Below.refl _ _) n0
  clear R
  cases r
  · clear hR
    generalize w.drewN n0 = w0 at *
    go_wp2_with fail
    refine (awake27 _).mono ?_
    rintro e w1 ⟨rfl, hb1⟩
    have hb2 := below_chain hb1 hb0
    go_wp2_with fail
    go_ret
    exact ⟨rfl, hb2⟩
  have hL := hR (by trivial)
  clear hR
  have hwf := bkLaw_wf hL
  have hl12 := hL.1
  have hids := lawIds hL.2.1
  have hwO : wOk l := fun b hb => by
    obtain ⟨j, hj, rfl⟩ := List.getElem_of_mem hb
    have := hL.2.1.2 j _ (List.getElem?_eq_getElem hj)
    have := hL.2.2 _ hb
    omega
  have hnd : (l.map Bk.id).Nodup := by
    rw [List.nodup_iff_pairwise_ne, List.pairwise_iff_getElem]
    intro i j hi hj hij
    rw [List.length_map] at hi hj
    have := hids i j hi hj hij
    simp only [List.getElem_map]
    omega
  replace hL := Lib.hid hL
  replace hwf := Lib.hid hwf
  replace hids := Lib.hid hids
  replace hwO := Lib.hid hwO
  replace hnd := Lib.hid hnd
  generalize w.drewN n0 = w0 at *
  by_cases h20 : 20 < ns.length
  · have e20 : decide ((20 : Int) < (ns.length : Int)) = true := by simp; omega
    go_wp2_with fail
    refine (awake27 _).mono ?_
    rintro e w1 ⟨rfl, hb1⟩
    have hb2 := below_chain hb1 hb0
    go_wp2_with fail
    go_ret
    exact ⟨rfl, hb2⟩
  have e20 : decide ((20 : Int) < (ns.length : Int)) = false := by simp; omega
  by_cases t20 : 20 < ts.length
  · have f20 : decide ((20 : Int) < (ts.length : Int)) = true := by simp; omega
    go_wp2_with fail
    refine (awake27 _).mono ?_
    rintro e w1 ⟨rfl, hb1⟩
    have hb2 := below_chain hb1 hb0
    go_wp2_with fail
    go_ret
    exact ⟨rfl, hb2⟩
  have f20 : decide ((20 : Int) < (ts.length : Int)) = false := by simp; omega
  have LD := fun W (h : Below w.heap.size w W) => law27_loads ns B d W ((hn.below h).more h.size) (by omega) hnw.out
  replace LD := Lib.hid LD
  have htl2 : ts.length ≤ 20 := by omega
  clear h20 t20 hn hnl
  go_wp2_with fail
  refine (LD.out _ hb0).mono ?_
  rintro e w1 ⟨g, b, g2, rfl, hA, hRA, hb1⟩
  have hb2 := below_chain hb1 hb0
  obtain ⟨f1, f2, f3⟩ := lmRun_facts ns
  have hMl : (lmRun ns).length ≤ 20 := by
    have : ns.length ≤ 20 := by
      by_cases h : ns.length ≤ 20
      · exact h
      · have : decide ((20 : Int) < (ns.length : Int)) = true := by simp; omega
        rw [e20] at this; cases this
    omega
  generalize lmRun ns = M at *
  clear LD hb0 hb1 e20
  obtain ⟨w2, hw2⟩ : ∃ w2, w2 = w1.alloc (.cells #[.int .i64 0, .slice A l.length c] 37) := ⟨_, rfl⟩
  have hb3 : Below w.heap.size w w2 := hw2 ▸ below_alloc hb2 _
  have hb12 : Below w1.heap.size w1 w2 := hw2 ▸ below_alloc (Below.refl _ _) _
  have S2 : Blk w2 w1.heap.size 37 #[.int .i64 0, .slice A l.length c] := hw2 ▸ Blk.new w1 _ _
  have hA2 := hA.call hb12
  have hRA2 := hRA.call hb12
  have F2 := Fmap.made w2
  have hz2 : w2.heap.size = w1.heap.size + 1 := by rw [hw2]; simp
  have hb23 : Below w2.heap.size w2 (w2.alloc (.map #[] 0)) := below_alloc (Below.refl _ _) _
  replace htm := Lib.hid htm
  replace htw := Lib.hid htw
  clear hA hRA hb12 hb2
  have hmm := @run_makeMap Try.prog
  go_wp2_with fail
  clear hmm
  rw [← hw2]
  clear hw2
  obtain ⟨gs, hgs⟩ : ∃ gs, w1.heap.size = gs := ⟨_, rfl⟩
  rw [hgs] at S2 hz2 ⊢
  clear hgs
  obtain ⟨bm, hbm⟩ : ∃ bm, w2.heap.size = bm := ⟨_, rfl⟩
  have hbm2 : gs + 1 = bm := by omega
  rw [hbm] at F2
  (try rw [hbm])
  (try rw [hbm2])
  go_loopw [17] (fun i wr => ∃ (j n : Nat), j ≤ ts.length ∧ n + j ≤ ts.length ∧ i = .int .i64 ((j : Int) - 1) ∧ Fmap wr bm n (fun id => tmOf (ts.drop j) id) ∧ Below w2.heap.size w2 wr) (fun i _ => (intOf i + 1).toNat)
  case atStart =>
    refine ⟨ts.length, 0, by omega, by omega, rfl, ?_, hb23⟩
    rw [List.drop_length]
    exact F2
  case round =>
    obtain ⟨j, n, hj, hnj, rfl, hF, hb⟩ := hrel
    clear F2 hb23
    have hbw := below_chain hb hb3
    cases j with
    | zero =>
      have ej : ((0 : Nat) : Int) - 1 = -1 := rfl
      rw [ej]
      have hF3 : Fmap wr bm n (tmOf ts) := hF
      have hA3 := hA2.call hb
      have hR3 := hRA2.call hb
      have S3 := S2.call hb
      have rd := fun W (h : Below wr.heap.size wr W) => (hr.below (below_chain h hbw)).more (below_chain h hbw).size
      have hM6 : M.length ≤ 1000000 := by omega
      have hl6 : l.length ≤ 1000000 := by omega
      have htl6 : ts.length ≤ 1000000 := by omega
      have htw2 := fun id => tmOf_lt htw.out id
      have hBB : ∀ x ∈ l, bkWf x ∧ bearB (lmGet M x.id) x.w = true := fun x hx => ⟨hwf.out x hx, bear_of f1 (hwO.out x hx)⟩
      have PK := fun W (h : Below wr.heap.size wr W) => least_pick 0 l A c g b M W (rd W h) hl6 (hA3.call h) hwf.out
      rw [leastId_fold] at PK
      have RP := fun W (h : Below wr.heap.size wr W) => ref27_pick l A c g2 M W (rd W h) hl6 (hR3.call h) hM6
      have QK := fun W (h : Below wr.heap.size wr W) => quick_any 0 l A c g b bm n M (tmOf ts) (kbOf ts M) W (rd W h) hl6 (hA3.call h) (hF3.call h) hwf.out (fun x hx => ⟨htw2 x.id, rfl⟩)
      have RQ := fun W (h : Below wr.heap.size wr W) => refquick_any l A c g2 M ts T q W (rd W h) hl6 (hR3.call h) hM6 ((htm.out.below (below_chain h hbw)).more (below_chain h hbw).size) htl6 htw2 hids.out
      have OR := fun W (h : Below wr.heap.size wr W) => lorder_all 0 l A c g b M W (rd W h) hl12 (hA3.call h) hBB
      have RO := fun W (h : Below wr.heap.size wr W) R hR => reforder_any l R A c g2 M W (rd W h) hl12 (hR3.call h) hM6 hR
      have SEL := fun S hP hS => selO_sorted f1 S l hP hS hwO.out hnd.out
      have BU := fun W => burden_all t n1 n2 ht W
      have RB := fun W => refburden_all t n1 n2 ht W
      have SM := fun W => same_all (brdB_cl (n := n1) (wt := n2) ht) W
      generalize brdB t n1 n2 = bd at *
      generalize (foldB M l).id = pi at *
      generalize quickId (kbOf ts M) l = qi at *
      generalize decide (0 < l.length) = po at *
      have hbase : ∀ W, Below wr.heap.size wr W → Below w.heap.size w W := fun W h => below_chain h hbw
      replace PK := Lib.hid PK
      replace RP := Lib.hid RP
      replace QK := Lib.hid QK
      replace RQ := Lib.hid RQ
      replace OR := Lib.hid OR
      replace RO := Lib.hid RO
      replace SEL := Lib.hid SEL
      replace BU := Lib.hid BU
      replace RB := Lib.hid RB
      replace SM := Lib.hid SM
      replace hbase := Lib.hid hbase
      clear hF hF3 hA3 hR3 rd hBB htw2 hA2 hRA2 S2 hb hbw hb3 hr f1 f2 f3 htm htw hids hwf hwO hnd hL hl
      have s0 := S3.cell 0
      have s1 := S3.cell 1
      simp only [List.getElem?_toArray, List.getElem?_cons_zero, List.getElem?_cons_succ] at s0 s1
      go_wp2_with fail
      refine (PK.out _ (by first | exact Below.refl _ _ | exact (Below.refl _ _).drew)).mono ?_
      rintro e w5 ⟨rfl, hb5⟩
      have S5 := S3.call hb5
      clear S3 s0 s1 PK
      go_wp2_with fail
      refine (RP.out _ hb5).mono ?_
      rintro e w6 ⟨rfl, m6, rfl⟩
      have hb6 := below_drewN hb5 m6
      have S6 : Blk (w5.drewN m6) gs 37 #[.int .i64 0, .slice A l.length c] := S5
      clear hb5 S5 RP
      generalize w5.drewN m6 = w6 at *
      have s0 := S6.cell 0
      have s1 := S6.cell 1
      simp only [List.getElem?_toArray, List.getElem?_cons_zero, List.getElem?_cons_succ] at s0 s1
      go_wp2_with fail
      refine (QK.out _ hb6).mono ?_
      rintro e w7 ⟨rfl, hb7⟩
      have S7 := S6.call hb7
      have hb8 := below_chain hb7 hb6
      clear S6 s0 s1 QK hb7 hb6
      go_wp2_with fail
      refine (RQ.out _ hb8).mono ?_
      rintro e w9 ⟨rfl, m9, rfl⟩
      have hb9 := below_drewN hb8 m9
      have S9 : Blk (w7.drewN m9) gs 37 #[.int .i64 0, .slice A l.length c] := S7
      clear hb8 S7 RQ
      generalize w7.drewN m9 = w9 at *
      have s0 := S9.cell 0
      have s1 := S9.cell 1
      simp only [List.getElem?_toArray, List.getElem?_cons_zero, List.getElem?_cons_succ] at s0 s1
      go_wp2_with fail
      refine (OR.out _ hb9).mono ?_
      rintro e w10 ⟨A3, c3, S, rfl, k1, k2, k3, hb10⟩
      have hb11 := below_chain hb10 hb9
      have hSl : (S.map Bk.id).length = l.length := by rw [List.length_map]; exact k1.length_eq
      have RO2 := RO.out _ hb11 (S.map Bk.id) (SEL.out S k1 k2)
      have i3 := k3.ints
      clear S9 s0 s1 OR hb9 k1 k2 k3 RO SEL
      generalize S.map Bk.id = L at *
      rw [hSl] at RO2
      replace RO2 := Lib.hid RO2
      replace i3 := Lib.hid i3
      go_wp2_with fail
      refine RO2.out.mono ?_
      rintro e w12 ⟨A4, c4, rfl, k4, hb12⟩
      have SI := sameInts_any A3 A4 c3 c4 L L w12 w12.heap.size ((i3.out.below hb12).more hb12.size) k4.ints (by omega) (by omega)
      rw [hSl] at SI
      have hb13 := below_chain hb12 hb11
      have hsl : sameL L L = true := by simp [sameL]
      rw [hsl] at SI
      replace SI := Lib.hid SI
      clear i3 k4 RO2 hb10 hb11 hb12
      go_wp2_with fail
      refine SI.out.mono ?_
      rintro e w14 ⟨rfl, m14, rfl⟩
      have hb14 := below_drewN hb13 m14
      clear hb13 SI
      generalize w12.drewN m14 = w14 at *
      go_wp2_with fail
      refine (BU.out _).mono ?_
      rintro e w15 ⟨rfl, rfl⟩
      go_wp2_with fail
      refine (RB.out _).mono ?_
      rintro e w15 ⟨rfl, rfl⟩
      go_wp2_with fail
      refine (SM.out _).mono ?_
      rintro e w15 ⟨rfl, rfl⟩
      go_wp2_with fail
      refine (awake27 _).mono ?_
      rintro e w16 ⟨rfl, hb16⟩
      have hb17 := hbase.out _ (below_chain hb16 hb14)
      go_wp2_with fail
      go_ret
      exact ⟨rfl, hb17⟩
    | succ j =>
      have ej : ((j + 1 : Nat) : Int) - 1 = (j : Int) := by omega
      rw [ej]
      have hj0 : decide ((0 : Int) ≤ (j : Int)) = true := by simp
      have hji : (j : Int) < (ts.length : Int) := by omega
      obtain ⟨ad, rfl, hbl, c0, c1⟩ := tm_at (htm.out.below hbw) (show j < ts.length by omega)
      have hdr := tmOf_drop (ts := ts) (j := j) (by omega)
      have hxw := htw.out _ (List.getElem_mem (show j < ts.length by omega))
      obtain ⟨xi, xt, hx⟩ : ∃ xi xt, ts[j] = (xi, xt) := ⟨_, _, rfl⟩
      rw [hx] at c0 c1 hdr hxw
      dsimp only at c0 c1 hdr
      replace hdr := Lib.hid hdr
      replace hx := Lib.hid hx
      have hxw1 := hxw.1
      dsimp only at hxw1
      clear hxw
      go_wp2_with fail
      refine wp_region_still_tail 11 (by kernel_rfl) (by kernel_rfl) ?_
      simp only [List.take_succ_cons, List.take_zero, List.drop_succ_cons, List.drop_zero]
      repeat still_step
      refine wpStill_nil ?_
      change wpList _ _ _ _ _ wr.drew
      have hF1 : Fmap wr.drew bm n (fun id => tmOf (ts.drop (j + 1)) id) := hF
      have hb1 : Below w2.heap.size w2 wr.drew := hb.drew
      clear hF hb hbw c0 c1
      generalize wr.drew = w4 at *
      go_wp2_with (refine wpList_insert_f rfl _ _ _ (.inr rfl) bm n _ xi xt rfl hF1 (by omega) rfl rfl hxw1 ?_; intro w5 hF5 hc5)
      rw [hdr.out] at hF5
      have hb5 := below_chg hb1 hc5 (fun b hb' e => by omega) hb1.size
      go_roundw
      case rel => exact ⟨j, n + 1, by omega, by omega, by go_num, hF5, hb5⟩
      case measure => simp [intOf]
end Go.Proofs.Ytnmmjchhinfbpaa
