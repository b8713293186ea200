/- least: the law's loads; the times told. -/
import Derived.Test.YtnmmjchhinfbpaaTwoH
import Derived.Test.YtnmmjchhinfbpaaLeastK
namespace Go.Proofs.Ytnmmjchhinfbpaa
open Go Go.RowKit Go.Deep

theorem rload_nil27 (w : World) : RLoadAt (w.alloc (.cells #[.slice none 0 0, .slice none 0 0] 98)) w.heap.size [] :=
  ⟨none, 0, none, 0, Blk.new w _ _, Reads.none_, Reads.none_⟩
set_option maxRecDepth 100000 in
set_option maxHeartbeats 8000000 in
theorem law27_loads (ns : List Stp) (B : Option Addr) (d : Nat) (w : World) (hn : Reads w w.heap.size 3 B ns.length (ns.flatMap Stp.cells)) (hnl : ns.length ≤ 20) (hnw : ∀ s ∈ ns, stpWf s) :
    Calls Try.prog 19 #[.slice B ns.length d] w fun e w' => ∃ g b g2, e = .returned (.tuple #[.pointer (some ⟨g, 0, none⟩), .pointer (some ⟨g2, 0, none⟩)]) ∧ LoadAt w' g b (lmRun ns) ∧ RLoadAt w' g2 (lmRun ns) ∧ Below w.heap.size w w' := by
  have N := Lib.hid load_new
  replace hnw := Lib.hid hnw
  go_enter Try.func19, Try.ntmps19
  go_wp2_with fail
  refine (N.out _).mono ?_
  rintro e w1 ⟨g, b, rfl, hLd, hg0, hb0', hbA⟩
  have hgw : w.heap.size ≤ g := hg0
  have hbw : w.heap.size ≤ b := hb0'
  have hzA := hbA.size
  clear N hg0 hb0'
  have hRl := rload_nil27 w1
  have hLd2 := hLd.call (below_alloc (Below.refl w1.heap.size w1) (.cells #[.slice none 0 0, .slice none 0 0] 98))
  go_wp2_with fail
  have hbB : Below w.heap.size w (w1.alloc (.cells #[.slice none 0 0, .slice none 0 0] 98)) := below_alloc hbA _
  have hg2 : w.heap.size ≤ w1.heap.size := hzA
  generalize w1.alloc (.cells #[.slice none 0 0, .slice none 0 0] 98) = W1 at *
  generalize w1.heap.size = g2 at *
  clear hLd hbA hzA
  go_loopw [6] (fun i wr => ∃ k : Nat, k ≤ ns.length ∧ i = .int .i64 (k : Nat) ∧ LoadAt wr g b (lmRun (ns.take k)) ∧ RLoadAt wr g2 (lmRun (ns.take k)) ∧ Below w.heap.size w wr) (fun i _ => ns.length - (intOf i).toNat)
  case atStart => exact ⟨0, by omega, rfl, hLd2, hRl, hbB⟩
  case round =>
    obtain ⟨k, hk, rfl, hA, hRA, hb⟩ := hrel
    by_cases hlt : k < ns.length
    · have hlti : (k : Int) < (ns.length : Int) := by omega
      obtain ⟨ad, s, rfl, hbl, hs, c0, c1, c2⟩ := stp_at hn hlt
      have hstep := lmRun_succ ns k s hs
      obtain ⟨f1, f2, f3⟩ := lmRun_facts (ns.take k)
      have f4 : (ns.take k).length ≤ k := List.length_take_le _ _
      have hsw := hnw.out s (List.mem_of_getElem? hs)
      generalize lmRun (ns.take k) = M at *
      obtain ⟨s0, si, sn⟩ := s
      dsimp only at *
      have e1 := (hb.cell (p := ⟨(ad.add (k * 3)).block, (ad.add (k * 3)).off + 1, none⟩) (by rw [block_of_add]; exact hbl)).trans c1
      have e2 := (hb.cell (p := ⟨(ad.add (k * 3)).block, (ad.add (k * 3)).off + 2, none⟩) (by rw [block_of_add]; exact hbl)).trans c2
      have hzr := hb.size
      have hMl : M.length ≤ 100000 := by omega
      replace hs := Lib.hid hs
      replace hstep := Lib.hid hstep
      replace c1 := Lib.hid c1
      replace c2 := Lib.hid c2
      clear hLd2 hRl hbB hn c0
      go_wp2_with fail
      refine wp_region_still_tail 11 (by kernel_rfl) (by kernel_rfl) ?_
      simp only [List.take_succ_cons, List.take_zero, List.drop_succ_cons, List.drop_zero]
      repeat still_step
      refine wpStill_nil ?_
      change wpList _ _ _ _ _ wr.drew
      have hA1 : LoadAt wr.drew g b M := hA
      have hRA1 : RLoadAt wr.drew g2 M := hRA
      have hb1 : Below w.heap.size w wr.drew := hb.drew
      clear hA hRA hb e1 e2
      generalize wr.drew = w2 at *
      go_wp2_with fail
      refine (load_add g b M si sn w2 hA1 hsw f1 (by omega)).mono ?_
      rintro e w3 ⟨rfl, hA2, hc2⟩
      have hRA2 := hRA1.chg_map hA1.2 hc2
      have hb2 := below_chg hb1 hc2 (fun b' hb' e => by omega) hb1.size
      clear hA1 hRA1 hc2 hb1
      have e1 := (hb2.cell (p := ⟨(ad.add (k * 3)).block, (ad.add (k * 3)).off + 1, none⟩) (by rw [block_of_add]; exact hbl)).trans c1.out
      have e2 := (hb2.cell (p := ⟨(ad.add (k * 3)).block, (ad.add (k * 3)).off + 2, none⟩) (by rw [block_of_add]; exact hbl)).trans c2.out
      go_wp2_with fail
      refine wp_region_still_tail 11 (by kernel_rfl) (by kernel_rfl) ?_
      simp only [List.take_succ_cons, List.take_zero, List.drop_succ_cons, List.drop_zero]
      repeat still_step
      refine wpStill_nil ?_
      change wpList _ _ _ _ _ w3.drew
      have hA3 : LoadAt w3.drew g b (lmAdd M si sn) := hA2
      have hRA3 : RLoadAt w3.drew g2 M := hRA2
      have hb3 : Below w.heap.size w w3.drew := hb2.drew
      clear hA2 hRA2 hb2 e1 e2
      generalize w3.drew = w4 at *
      go_wp2_with fail
      refine (refload_add g2 M si sn w4 hRA3 f2 f1 (by omega)).mono ?_
      rintro e w5 ⟨rfl, hRA4, hc4⟩
      have hA4 := hA3.chg_ref hRA3 hc4
      have hb4 := below_chg hb3 hc4 (fun b' hb' e => by omega) hb3.size
      go_wp2_with fail
      go_roundw
      case rel => exact ⟨k + 1, by omega, by go_num, by rw [hstep.out]; exact hA4, by rw [hstep.out]; exact hRA4, hb4⟩
      case measure => simp [intOf]; omega
    · obtain rfl : k = ns.length := by omega
      have hlti : ¬ (ns.length : Int) < (ns.length : Int) := by omega
      rw [List.take_length] at hA hRA
      clear hLd2 hRl hbB
      go_wp2_with fail
      go_ret2
      exact ⟨g, b, g2, rfl, hA, hRA, hb⟩
end Go.Proofs.Ytnmmjchhinfbpaa
