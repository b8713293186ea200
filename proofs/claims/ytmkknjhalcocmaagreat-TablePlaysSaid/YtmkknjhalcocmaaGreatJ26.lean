/- table: the document's put, walked. -/
import Derived.Test.YtmkknjhalcocmaaGreatJ25
import Derived.Deep.CutRange
namespace Go.Proofs.YtmkknjhalcocmaaGreat
open Go Go.RowKit Go.Deep Go.Maps Go.ChangeMaps

section
variable {w w' : World} {g n : Nat} {b : Int} {c : TCfg} {d : DTs} {X F : Nat → Prop}
theorem blk_at {w : World} {r : Nat} {x : Slt} (h : Blk w r 55 x.entA) : ∀ j u, x.ent[j]? = some u → w.cell? ((⟨r, 0, none⟩ : Addr).add j) = some u := fun j u hu => by
  rw [Addr.add_mid, Nat.zero_add, h.cell j]
  exact (List.getElem?_toArray ..).trans hu
theorem entR_at {w : World} {B : Nat} {ad : Addr} {L : List Slt} (h : Reads w B 14 (some ad) L.length (L.flatMap Slt.ent)) {k : Nat} (hk : k < L.length) : ∀ j u, L[k].ent[j]? = some u → w.cell? ((ad.add (k * 14)).add j) = some u := by
  obtain ⟨ad', e, -, hc⟩ := h.rec_at Slt.ent (fun _ => rfl) hk
  cases e
  exact hc
set_option maxRecDepth 100000 in
set_option maxHeartbeats 8000000 in
theorem dtab_put (h : DTabP w g n b c d X) (hs : d.LL.Pairwise fun x y => x.sl < y.sl) (hl : d.LL.length ≤ 4096) (x : Slt) :
    Calls Tryz.prog 51 #[.pointer (some ⟨g, 0, none⟩), x.val] w fun e w' => e = .returned (.tuple #[]) ∧ ∃ X', DTabP w' g n b c { d with LL := putL d.LL x } X' ∧ Chg X w w' ∧ ∀ y, X' y → X y ∨ w.heap.size ≤ y := by
  have HF := Lib.hid fun (W : World) (hb : Below w.heap.size w W) (A' : Option Addr) (q' : Nat) (LL' : List Slt) (B : Nat) (hO : OwnE W B A' q' LL') (hB : w.heap.size ≤ B) => h.setLL hb hO hB
  obtain ⟨fs, wg, gb, A, q, -, -, c7, -, -, fz, hO, -, -, -⟩ := h.cells
  have hglt := h.lt h.gX
  have f7 := fz 7
  obtain ⟨now, M, L, LL, gen, lk⟩ := d
  dsimp only at c7 hO hl hs HF
  dsimp only
  obtain ⟨PL, hPL⟩ : ∃ P, putL LL x = P := ⟨_, rfl⟩
  have hput := Lib.hid (putL_at hs x)
  rw [hPL] at hput ⊢
  have hcap := ownE_cap hO
  clear h fz hPL hs
  replace hO := Lib.hid hO
  go_enter Tryz.func51, Tryz.ntmps51
  go_upto_region 1 with fail
  have hB0 := Blk.new w 55 x.entA
  have hb0 := below_alloc (Below.refl w.heap.size w) (.cells x.entA 55)
  have hz0 := World.size_alloc w (.cells x.entA 55)
  have c7' := (hb0.cell (block_lt_of_cell c7)).trans c7
  have f7' : (w.alloc (.cells x.entA 55)).frozen? ⟨g, 7, none⟩ = false := (hb0.frozen hglt).trans f7
  obtain ⟨r, hr⟩ : ∃ r, w.heap.size = r := ⟨_, rfl⟩
  rw [hr] at hB0
  try rw [hr]
  generalize w.alloc (.cells x.entA 55) = w1 at *
  clear c7 f7
  replace hB0 := Lib.hid hB0
  go_wp2_with fail
  go_loopw [4, 5] (fun ov iv wr => ∃ (k : Nat) (A' : Option Addr) (q' : Nat), k ≤ LL.length ∧ iv = .int .i64 (k : Nat) ∧ ov = .slice A' k q' ∧ OwnE wr w1.heap.size A' q' (LL.take k) ∧ Below w1.heap.size w1 wr ∧ ∀ j (hj : j < LL.length), j < k → LL[j].sl < x.sl) (fun _ iv _ => LL.length - (intOf iv).toNat)
  case atStart => exact ⟨0, none, 0, by omega, rfl, rfl, OwnA.nil _ _, Below.refl _ _, fun j _ hj => absurd hj (by omega)⟩
  case round =>
    obtain ⟨k, A', q', hk, rfl, rfl, hT, hb, hall⟩ := hrel
    have hz := hb.size
    have hlk : (LL.take k).length = k := by rw [List.length_take]; omega
    have c7 := (hb.cell (block_lt_of_cell c7')).trans c7'
    have hBr := hB0.out.call hb
    have cx : wr.cell? ⟨r, 11, none⟩ = some (.int .i64 x.sl) := hBr.cell 11
    have hRd := (hO.out.call (below_chain hb hb0)).reads
    by_cases hs1 : ∃ hlt : k < LL.length, LL[k].sl < x.sl
    · obtain ⟨hlt, hs1⟩ := hs1
      have hlti : (k : Int) < (LL.length : Int) := by omega
      obtain ⟨ad, rfl, hbl, hc⟩ := hRd.rec_at Slt.ent (fun _ => rfl) hlt
      have c11 : wr.cell? ⟨(ad.add (k * 14)).block, (ad.add (k * 14)).off + 11, none⟩ = some (.int .i64 LL[k].sl) := hc 11 _ rfl
      have hd1 : decide (LL[k].sl < x.sl) = true := by simpa using hs1
      have hst : LL.take (k + 1) = LL.take k ++ [LL[k]] := List.take_succ_eq_append_getElem hlt
      obtain ⟨y, hy⟩ : ∃ y, LL[k] = y := ⟨_, rfl⟩
      rw [hy] at c11 hd1 hst hs1 hc
      replace hy := Lib.hid hy
      replace hs1 := Lib.hid hs1
      replace hst := Lib.hid hst
      replace hall := Lib.hid hall
      replace hc := Lib.hid hc
      replace hT := Lib.hid hT
      clear hRd hBr
      go_upto_region 3 with fail
      go_quiet (fail)
      have hbn := below_drewN (Below.refl wr.heap.size wr) nq
      have c7n := (hbn.cell (block_lt_of_cell c7)).trans c7
      have hcn : ∀ j u, y.ent[j]? = some u → (wr.drewN nq).cell? ((ad.add (k * 14)).add j) = some u := fun j u hu => (hbn.cell (block_lt_of_cell (hc.out j u hu))).trans (hc.out j u hu)
      have hTn := hT.out.call hbn
      have hb2 := below_chain hbn hb
      clear c7 cx c11 hc hT hbn hb
      generalize wr.drewN nq = wz at *
      have hz2 := hb2.size
      replace hcn := Lib.hid hcn
      replace hTn := Lib.hid hTn
      go_wp2_with (first
        | (refine wpList_load_entR rfl (.tmp 34) rfl (ad.add (k * 14)) rfl y hcn.out ?_)
        | (at_builtin; refine wpList_push_ent rfl (.tmp 28) (.tmp 36) rfl w1.heap.size A' q' (LL.take k) y k hlk rfl hTn.out _ rfl rfl rfl (by omega) (by omega) ?_; intro A4 a4 w4 hO4 hp4))
      have hb4 := hp4.below hb2 (by omega) (fun z hz => (hTn.out.block hz).1)
      go_roundw
      case rel => exact ⟨k + 1, A4, a4, by omega, by go_num, rfl, by rw [hst.out]; exact hO4, hb4, fun j hj hjk => by
        by_cases e : j = k
        · subst e
          rw [hy.out]
          exact hs1.out
        · exact hall.out j hj (by omega)⟩
      case measure => simp [intOf]; omega
    · obtain ⟨k2, hk2⟩ : ∃ k2, (if ∃ h : k < LL.length, LL[k].sl = x.sl then k + 1 else k) = k2 := ⟨_, rfl⟩
      have hp := hput.out k hk hall (fun hlt => Int.not_lt.1 fun h => hs1 ⟨hlt, h⟩)
      rw [hk2] at hp
      have hk3 : k2 ≤ LL.length := by
        rw [← hk2]
        split
        · next h => obtain ⟨h1, -⟩ := h; omega
        · omega
      obtain ⟨A2, c2, hsl, hrd⟩ := slice_from_ent A LL.length q k2 hk3 hcap
      have hRA := Lib.hid fun W (hW : Below w1.heap.size w1 W) => (hrd W _ LL (hO.out.call (below_chain hW hb0)).reads)
      have hdl : (LL.drop k2).length = LL.length - k2 := List.length_drop ..
      have hPl : PL.length = k + 1 + (LL.length - k2) := by
        rw [hp, List.length_append, List.length_cons, hlk, hdl]
        omega
      have hk3i : (k2 : Int) ≤ (LL.length : Int) := by omega
      have hk0i : (0 : Int) ≤ (k2 : Int) := by omega
      have FZ := Lib.hid fun W (hW : Below w1.heap.size w1 W) => And.intro ((hW.cell (block_lt_of_cell c7')).trans c7') ((hW.frozen (p := ⟨g, 7, none⟩) (block_lt_of_cell c7')).trans f7')
      have XB := Lib.hid fun W (hW : Below w1.heap.size w1 W) => blk_at (hB0.out.call hW)
      have CX := Lib.hid fun W (hW : Below w1.heap.size w1 W) => show W.cell? ⟨r, 11, none⟩ = some (.int .i64 x.sl) from (hB0.out.call hW).cell 11
      have hcase : (∃ hlt : k < LL.length, x.sl ≤ LL[k].sl) ∨ k = LL.length := by
        by_cases hlt : k < LL.length
        · exact .inl ⟨hlt, Int.not_lt.1 fun h => hs1 ⟨hlt, h⟩⟩
        · exact .inr (by omega)
      rcases hcase with ⟨hlt, hge⟩ | rfl
      · have hlti : (k : Int) < (LL.length : Int) := by omega
        obtain ⟨ad, rfl, -, -⟩ := hRd.rec_at Slt.ent (fun _ => rfl) hlt
        have HC := Lib.hid fun W (hW : Below w1.heap.size w1 W) (hlt : k < LL.length) => show W.cell? ((ad.add (k * 14)).add 11) = some (.int .i64 LL[k].sl) from entR_at (hO.out.call (below_chain hW hb0)).reads hlt 11 _ rfl
        by_cases he : LL[k].sl = x.sl
        · obtain rfl : k + 1 = k2 := by rw [← hk2, if_pos ⟨hlt, he⟩]
          have hd1 : decide (LL[k].sl < x.sl) = false := by simpa using hge
          have C11 := Lib.hid fun W (hW : Below w1.heap.size w1 W) => show W.cell? ⟨(ad.add (k * 14)).block, (ad.add (k * 14)).off + 11, none⟩ = some (.int .i64 LL[k].sl) from HC.out W hW hlt
          have c11 := C11.out wr hb
          have hE : (LL[k].sl == x.sl) = true := by simpa using he
          generalize LL[k].sl = y at *
          clear he hge
          have hsl2 : ∀ W, (Instr.slice 41 (.slice (some ad) LL.length q) (some (.int .i64 ((k : Int) + 1))) none none).run Tryz.prog W = .ok (.slice A2 (LL.length - (k + 1)) c2) W := fun W => by rw [show (k : Int) + 1 = ((k + 1 : Nat) : Int) from rfl]; exact hsl W
          have hk3i2 : (k : Int) + 1 ≤ (LL.length : Int) := by omega
          clear hsl hk3i hk0i
          replace hp := Lib.hid hp
          replace hPl := Lib.hid hPl
          replace hdl := Lib.hid hdl
          replace hlk := Lib.hid hlk
          replace hT := Lib.hid hT
          clear hRd hBr HC
          go_upto_region 3 with fail
          go_quiet (fail)
          have hbn := below_drewN (Below.refl wr.heap.size wr) nq
          have hTn := Lib.hid (hT.out.call hbn)
          have hb2 := below_chain hbn hb
          clear c7 cx hT hbn hb c11
          generalize wr.drewN nq = wz at *
          have hz2 := hb2.size
          go_upto_region 7 with (first
            | (refine wpList_load_entR rfl (.tmp 3) rfl ⟨r, 0, none⟩ rfl x (XB.out _ hb2) ?_)
            | (at_builtin; refine wpList_push_ent rfl (.tmp 38) (.tmp 40) rfl w1.heap.size A' q' (LL.take k) x k hlk.out rfl hTn.out _ rfl rfl rfl (by have := hlk.out; omega) (by omega) ?_; intro A5 q5 w5 hO5 hp5))
          have hb5 := hp5.below hb2 (by omega) (fun z hz => (hTn.out.block hz).1)
          have hz5 := hb5.size
          obtain ⟨c7, f7⟩ := FZ.out w5 hb5
          have cx := CX.out w5 hb5
          have c11 := C11.out w5 hb5
          replace hO5 := Lib.hid hO5
          clear hTn hp5 hb2 hz2 hz
          go_quiet (fail)
          have hbm := below_drewN (Below.refl w5.heap.size w5) nq
          have hO6 := Lib.hid (hO5.out.call hbm)
          have hb6 := below_chain hbm hb5
          clear c7 f7 cx hO5 hbm hb5 hz5 c11
          generalize w5.drewN nq = w6 at *
          have hz6 := hb6.size
          obtain ⟨c7, f7⟩ := FZ.out w6 hb6
          go_wp2_with (first
            | (at_builtin; refine wpList_push_ents2 rfl (.tmp 65) (.tmp 71) rfl w1.heap.size A5 q5 (LL.take k ++ [x]) (k + 1) (by rw [List.length_append, hlk.out]; rfl) rfl hO6.out A2 c2 (LL.drop (k + 1)) (LL.length - (k + 1)) hdl.out rfl (hRA.out _ hb6) (by omega) (by omega) ?_; intro A7 q7 w7 hO7 hp7; have hb7 := hp7.below hb6 (by omega) (fun z hz => (hO6.out.block hz).1); obtain ⟨c7, f7⟩ := FZ.out w7 hb7))
          have hfin := HF.out w7 (below_chain hb7 hb0) A7 q7 PL w1.heap.size (by rw [hp.out]; simpa using hO7) (by omega)
          rw [hPl.out] at hfin
          rw [show k + 1 + (LL.length - (k + 1)) = LL.length by omega] at hfin
          replace hfin := Lib.hid hfin
          go_end0
          first | exact ⟨rfl, hfin.out⟩ | (have h9 := hfin.out; rw [hr] at h9; exact ⟨rfl, h9⟩)
        · obtain rfl : k = k2 := by rw [← hk2, if_neg (fun h => he h.2)]
          have hd1 : decide (LL[k].sl < x.sl) = false := by simpa using hge
          have C11 := Lib.hid fun W (hW : Below w1.heap.size w1 W) => show W.cell? ⟨(ad.add (k * 14)).block, (ad.add (k * 14)).off + 11, none⟩ = some (.int .i64 LL[k].sl) from HC.out W hW hlt
          have c11 := C11.out wr hb
          have hE : (LL[k].sl == x.sl) = false := by simpa using he
          generalize LL[k].sl = y at *
          clear he hge
          replace hp := Lib.hid hp
          replace hPl := Lib.hid hPl
          replace hdl := Lib.hid hdl
          replace hlk := Lib.hid hlk
          replace hT := Lib.hid hT
          clear hRd hBr HC
          go_upto_region 3 with fail
          go_quiet (fail)
          have hbn := below_drewN (Below.refl wr.heap.size wr) nq
          have hTn := Lib.hid (hT.out.call hbn)
          have hb2 := below_chain hbn hb
          clear c7 cx hT hbn hb c11
          generalize wr.drewN nq = wz at *
          have hz2 := hb2.size
          go_upto_region 7 with (first
            | (refine wpList_load_entR rfl (.tmp 3) rfl ⟨r, 0, none⟩ rfl x (XB.out _ hb2) ?_)
            | (at_builtin; refine wpList_push_ent rfl (.tmp 38) (.tmp 40) rfl w1.heap.size A' q' (LL.take k) x k hlk.out rfl hTn.out _ rfl rfl rfl (by have := hlk.out; omega) (by omega) ?_; intro A5 q5 w5 hO5 hp5))
          have hb5 := hp5.below hb2 (by omega) (fun z hz => (hTn.out.block hz).1)
          have hz5 := hb5.size
          obtain ⟨c7, f7⟩ := FZ.out w5 hb5
          have cx := CX.out w5 hb5
          have c11 := C11.out w5 hb5
          replace hO5 := Lib.hid hO5
          clear hTn hp5 hb2 hz2 hz
          go_quiet (fail)
          have hbm := below_drewN (Below.refl w5.heap.size w5) nq
          have hO6 := Lib.hid (hO5.out.call hbm)
          have hb6 := below_chain hbm hb5
          clear c7 f7 cx hO5 hbm hb5 hz5 c11
          generalize w5.drewN nq = w6 at *
          have hz6 := hb6.size
          obtain ⟨c7, f7⟩ := FZ.out w6 hb6
          go_wp2_with (first
            | (at_builtin; refine wpList_push_ents2 rfl (.tmp 65) (.tmp 71) rfl w1.heap.size A5 q5 (LL.take k ++ [x]) (k + 1) (by rw [List.length_append, hlk.out]; rfl) rfl hO6.out A2 c2 (LL.drop k) (LL.length - k) hdl.out rfl (hRA.out _ hb6) (by omega) (by omega) ?_; intro A7 q7 w7 hO7 hp7; have hb7 := hp7.below hb6 (by omega) (fun z hz => (hO6.out.block hz).1); obtain ⟨c7, f7⟩ := FZ.out w7 hb7))
          have hfin := HF.out w7 (below_chain hb7 hb0) A7 q7 PL w1.heap.size (by rw [hp.out]; simpa using hO7) (by omega)
          rw [hPl.out] at hfin
          replace hfin := Lib.hid hfin
          go_end0
          first | exact ⟨rfl, hfin.out⟩ | (have h9 := hfin.out; rw [hr] at h9; exact ⟨rfl, h9⟩)
      · obtain rfl : LL.length = k2 := by rw [← hk2, if_neg (fun h => by obtain ⟨h1, -⟩ := h; omega)]
        have hlti : ¬ ((LL.length : Nat) : Int) < (LL.length : Int) := by omega
        replace hp := Lib.hid hp
        replace hPl := Lib.hid hPl
        replace hdl := Lib.hid hdl
        replace hlk := Lib.hid hlk
        replace hT := Lib.hid hT
        clear hRd hBr
        go_upto_region 3 with fail
        go_quiet (fail)
        have hbn := below_drewN (Below.refl wr.heap.size wr) nq
        have hTn := Lib.hid (hT.out.call hbn)
        have hb2 := below_chain hbn hb
        clear c7 cx hT hbn hb
        generalize wr.drewN nq = wz at *
        have hz2 := hb2.size
        go_upto_region 7 with (first
          | (refine wpList_load_entR rfl (.tmp 3) rfl ⟨r, 0, none⟩ rfl x (XB.out _ hb2) ?_)
          | (at_builtin; refine wpList_push_ent rfl (.tmp 38) (.tmp 40) rfl w1.heap.size A' q' (LL.take LL.length) x LL.length hlk.out rfl hTn.out _ rfl rfl rfl (by have := hlk.out; omega) (by omega) ?_; intro A5 q5 w5 hO5 hp5))
        have hb5 := hp5.below hb2 (by omega) (fun z hz => (hTn.out.block hz).1)
        have hz5 := hb5.size
        obtain ⟨c7, f7⟩ := FZ.out w5 hb5
        have cx := CX.out w5 hb5
        replace hO5 := Lib.hid hO5
        clear hTn hp5 hb2 hz2 hz
        go_quiet (fail)
        have hbm := below_drewN (Below.refl w5.heap.size w5) nq
        have hO6 := Lib.hid (hO5.out.call hbm)
        have hb6 := below_chain hbm hb5
        clear c7 f7 cx hO5 hbm hb5 hz5
        generalize w5.drewN nq = w6 at *
        have hz6 := hb6.size
        obtain ⟨c7, f7⟩ := FZ.out w6 hb6
        go_wp2_with (first
          | (at_builtin; refine wpList_push_ents2 rfl (.tmp 65) (.tmp 71) rfl w1.heap.size A5 q5 (LL.take LL.length ++ [x]) (LL.length + 1) (by rw [List.length_append, hlk.out]; rfl) rfl hO6.out A2 c2 [] 0 rfl rfl (by have h9 := hRA.out _ hb6; rw [Nat.sub_self, List.drop_length] at h9; exact h9) (by omega) (by omega) ?_; intro A7 q7 w7 hO7 hp7; have hb7 := hp7.below hb6 (by omega) (fun z hz => (hO6.out.block hz).1); obtain ⟨c7, f7⟩ := FZ.out w7 hb7))
        have hfin := HF.out w7 (below_chain hb7 hb0) A7 q7 PL w1.heap.size (by rw [hp.out]; simpa using hO7) (by omega)
        rw [hPl.out] at hfin
        rw [show LL.length + 1 + (LL.length - LL.length) = LL.length + 1 by omega] at hfin
        replace hfin := Lib.hid hfin
        go_end0
        first | exact ⟨rfl, hfin.out⟩ | (have h9 := hfin.out; rw [hr] at h9; exact ⟨rfl, h9⟩)
end
end Go.Proofs.YtmkknjhalcocmaaGreat
