/- slices: DeleteFunc at backends, as shift's Drain calls it. -/
import Derived.Test.YtkpkjpdhlmjchaaShiftU
namespace Go.Proofs.Ytkpkjpdhlmjchaa
open Go Go.RowKit Go.Deep

theorem reads_out {w : World} {B o : Nat} {A : Option Addr} {n : Nat} {xs : List Value} {g : Nat} (h : Reads w B 6 A n xs) (zs : List Value) (ho : ∀ a : Addr, A = some a → a.block = g → a.off + n * 6 ≤ o) : Reads (w.setCells g o zs) B 6 A n xs := by
  refine ⟨h.1, fun hn => ?_⟩
  obtain ⟨ad, rfl, hb, hc⟩ := h.2 hn
  refine ⟨ad, rfl, hb, fun j u hu => ?_⟩
  rw [World.cell?_setCells_out]
  · exact hc j u hu
  · intro e1 e2
    have hj : j < n * 6 := by rw [← h.1]; exact (List.getElem?_eq_some_iff.1 hu).1
    rw [block_of_add] at e1
    have := ho ad rfl e1
    left
    unfold Addr.add at e2 ⊢
    split at e2 <;> simp_all <;> omega
theorem below_setC {B : Nat} {a : World} (b : Nat) (hb : B ≤ b) : ∀ (vs : List Value) (o : Nat) {w : World}, Below B a w → Below B a (w.setCells b o vs)
  | [], _, _, h => h
  | v :: r, o, _, h => below_setC b hb r (o + 1) (h.setCell (p := ⟨b, o, none⟩) hb v)
theorem size_setC (b : Nat) : ∀ (vs : List Value) (o : Nat) (w : World), (w.setCells b o vs).heap.size = w.heap.size
  | [], _, _ => rfl
  | v :: r, o, w => (size_setC b r (o + 1) _).trans (by simp [World.setCell])
theorem row_reads {w : World} {base g n cap : Nat} {L : List Bk} (h : RowB w base g n cap L) {B p : Nat} (hB : g < B) (hp : p ≤ n) : Reads w B 6 (some ⟨g, 0, none⟩) p ((L.take p).flatMap Bk.cells) := by
  have hl : (L.take p).length = p := by rw [List.length_take, h.1]; omega
  refine ⟨by rw [flat_len Bk.cells 6 (fun _ => rfl), hl], fun _ => ⟨_, rfl, hB, fun j u hu => ?_⟩⟩
  have hj : j < p * 6 := by
    have := (List.getElem?_eq_some_iff.1 hu).1
    rw [flat_len Bk.cells 6 (fun _ => rfl), hl] at this
    exact this
  have e : (⟨g, 0, none⟩ : Addr).add j = ⟨g, j, none⟩ := by unfold Addr.add; split <;> simp_all
  rw [e, h.2.cellAt j (by omega), ← hu]
  have e2 : L = L.take p ++ L.drop p := (List.take_append_drop p L).symm
  conv => lhs; rw [e2, List.flatMap_append]
  rw [List.getElem?_append_left (by rw [flat_len Bk.cells 6 (fun _ => rfl), hl]; exact hj)]

set_option maxRecDepth 100000 in
set_option maxHeartbeats 8000000 in
theorem delete_bk (base g cap gc : Nat) (id : Int) (l : List Bk) (w : World) (h : RowB w base g l.length cap l) (hgc : gc ≠ g) (hc : w.cell? ⟨gc, 0, none⟩ = some (.int .i64 id)) (hhas : hasB l id = true) (hl : l.length ≤ 65536) (hcap : l.length ≤ cap) (hcm : cap ≤ 9223372036854775807) :
    Calls Try.prog 64 #[.slice (some ⟨g, 0, none⟩) l.length cap, .func (Fn.func 66) #[] #[.pointer (some ⟨gc, 0, none⟩)]] w fun e w' => ∃ c, e = .returned (.slice (some ⟨g, 0, none⟩) (l.filter (fun b => b.id != id)).length c) ∧ Reads w' w'.heap.size 6 (some ⟨g, 0, none⟩) (l.filter (fun b => b.id != id)).length ((l.filter (fun b => b.id != id)).flatMap Bk.cells) ∧ Below base w w' := by
  obtain ⟨k0, x0, hi0, hx0, hxi0, hf0⟩ := first_at l id hhas
  have hk0 : k0 < l.length := (List.getElem?_eq_some_iff.1 hx0).1
  have hr0 : Reads w w.heap.size 6 (some ⟨g, 0, none⟩) l.length (l.flatMap Bk.cells) := by
    have := row_reads h h.blk.2 (Nat.le_refl _)
    rwa [List.take_length] at this
  have I := index_dr l (some ⟨g, 0, none⟩) cap gc id w hr0 (by omega) hc
  rw [hi0] at I
  have hf1 := filt_step l id k0 x0 hx0
  have hne0 : (x0.id != id) = false := by simp [hxi0]
  rw [hf0, hne0] at hf1
  simp only [Bool.false_eq_true, if_false, List.append_nil] at hf1
  have hm1 : ((k0 : Int) == -1) = false := by rw [beq_eq_false_iff_ne]; omega
  have hbk := h.blk
  replace I := Lib.hid I
  replace hi0 := Lib.hid hi0
  replace hx0 := Lib.hid hx0
  replace hf0 := Lib.hid hf0
  replace hf1 := Lib.hid hf1
  clear hr0 hhas hxi0 hne0
  obtain ⟨hb1', hb2'⟩ := hbk
  go_enter Try.func64, Try.ntmps64
  go_wp2_with fail
  refine I.out.mono ?_
  rintro e w1 ⟨rfl, hb1⟩
  have hR1 := h.call hb1
  have hc1 : w1.cell? ⟨gc, 0, none⟩ = some (.int .i64 id) := (hb1.cell (p := ⟨gc, 0, none⟩) (block_lt_of_cell hc)).trans hc
  have hB1 : Below base w w1 := hb1.mono (by omega)
  clear h hc hb1 I
  go_wp2_with fail
  go_loopw [5, 6] (fun i j wr => ∃ (p k : Nat) (L : List Bk), k ≤ l.length ∧ p < k ∧ i = .int .i64 (p : Nat) ∧ j = .int .i64 (k : Nat) ∧ RowB wr base g l.length cap L ∧ L.take p = (l.take k).filter (fun b => b.id != id) ∧ L.drop k = l.drop k ∧ wr.cell? ⟨gc, 0, none⟩ = some (.int .i64 id) ∧ Below base w wr) (fun _ j _ => l.length - (intOf j).toNat)
  case atStart => exact ⟨k0, k0 + 1, l, by omega, by omega, rfl, by go_num, hR1, hf1.out.symm, rfl, hc1, hB1⟩
  case round =>
    obtain ⟨p, k, L, hk, hpk, rfl, rfl, hR, hT, hD, hcr, hb⟩ := hrel
    clear hR1 hc1 hB1
    have hpl := hR.blk
    by_cases hlt : k < l.length
    · have hlti : (k : Int) < (l.length : Int) := by omega
      obtain ⟨x, hx⟩ : ∃ x, l[k]? = some x := ⟨_, List.getElem?_eq_getElem hlt⟩
      have hLx : L[k]? = some x := by
        have : (L.drop k)[0]? = (l.drop k)[0]? := by rw [hD]
        simpa [hx] using this
      have hfs := filt_step l id k x hx
      have hD1 : L.drop (k + 1) = l.drop (k + 1) := by
        rw [← List.drop_drop, ← List.drop_drop, hD]
      have W1 := fun W h => drain1_any x id gc W h
      obtain ⟨y, hy⟩ : ∃ y, L[p]? = some y := ⟨_, List.getElem?_eq_getElem (by rw [hR.1]; omega)⟩
      obtain ⟨c0, c1, c2, c3, c4, c5⟩ := hR.cells hLx
      have hTp : (L.set p x).take (p + 1) = L.take p ++ [x] := by
        have hpL : p < L.length := by rw [hR.1]; omega
        rw [List.take_succ_eq_append_getElem (by rw [List.length_set]; exact hpL), List.getElem_set_self, List.take_set_of_le (Nat.le_refl _)]
      have hDp : (L.set p x).drop (k + 1) = L.drop (k + 1) := by
        rw [List.drop_set]
        split
        · rfl
        · omega
      obtain ⟨xi, xw, xs, xv, xh, xo⟩ := x
      unfold Bk.val at W1
      dsimp only at *
      have hRa := hR.call (below_alloc (Below.refl _ _) (.cells #[.int .i64 xi, .int .i64 xw, .int .i64 xs, .bool xv, .int .u64 xh, .int .u64 xo] 47))
      have hba := hb.alloc (by omega : base ≤ wr.heap.size) (.cells #[.int .i64 xi, .int .i64 xw, .int .i64 xs, .bool xv, .int .u64 xh, .int .u64 xo] 47)
      have Xa := Blk.new wr 47 #[.int .i64 xi, .int .i64 xw, .int .i64 xs, .bool xv, .int .u64 xh, .int .u64 xo]
      have hca : (wr.alloc (.cells #[.int .i64 xi, .int .i64 xw, .int .i64 xs, .bool xv, .int .u64 xh, .int .u64 xo] 47)).cell? ⟨gc, 0, none⟩ = some (.int .i64 id) := (World.cell?_alloc_lt wr _ _ (block_lt_of_cell hcr)).trans hcr
      have hgx : g < wr.heap.size := hpl.2
      have hLl := hR.1
      replace hLx := Lib.hid hLx
      replace hfs := Lib.hid hfs
      replace hD := Lib.hid hD
      replace hT := Lib.hid hT
      replace hD1 := Lib.hid hD1
      replace hTp := Lib.hid hTp
      replace hDp := Lib.hid hDp
      replace hx := Lib.hid hx
      replace hy := Lib.hid hy
      replace hLl := Lib.hid hLl
      replace W1 := Lib.hid W1
      replace hRa := Lib.hid hRa
      clear hR hb hcr hpl
      go_wp2_with fail
      generalize wr.alloc (.cells #[.int .i64 xi, .int .i64 xw, .int .i64 xs, .bool xv, .int .u64 xh, .int .u64 xo] 47) = wa at *
      generalize wr.heap.size = gx at *
      refine (W1.out _ hca).mono ?_
      rintro e w2 ⟨rfl, hb2⟩
      have hR2 := hRa.out.call hb2
      have hpl2 := hR2.blk
      have hbB : Below base w w2 := below_call hba (by have := hRa.out.blk; omega) hb2
      have X2 := Xa.call hb2
      have hc2 : w2.cell? ⟨gc, 0, none⟩ = some (.int .i64 id) := (hb2.cell (p := ⟨gc, 0, none⟩) (block_lt_of_cell hca)).trans hca
      clear c0 c1 c2 c3 c4 c5 hRa hba hb2 Xa hca W1
      obtain ⟨t, ht⟩ : ∃ t, (xi == id) = t := ⟨_, rfl⟩
      rw [ht]
      cases t
      · have hne : (xi != id) = true := by simp [bne, ht]
        replace ht := Lib.hid ht
        obtain ⟨c0, c1, c2, c3, c4, c5⟩ := hR2.cells hy.out
        have hfz := fun j => hR2.2.frozenAt j
        obtain ⟨⟨b0, b1, b2, b3, b4, b5⟩, -⟩ := X2.six
        have hput := hR2.put (p := p) (by omega) ⟨xi, xw, xs, xv, xh, xo⟩
        dsimp only at hput
        have hbP : ∀ (W : World) (j : Nat) (u : Value), Below base w W → Below base w (W.setCell ⟨g, j, none⟩ u) := fun W j u h => h.setCell (by show base ≤ g; omega) u
        have hcP : ∀ (W : World) (j : Nat) (u : Value), W.cell? ⟨gc, 0, none⟩ = some (.int .i64 id) → (W.setCell ⟨g, j, none⟩ u).cell? ⟨gc, 0, none⟩ = some (.int .i64 id) := fun W j u h => by
          rw [← h]; exact World.cell?_of_block (Below.heap_setCell W ⟨g, j, none⟩ u _ (by show gc ≠ g; omega))
        have hpi : (p : Int) < (l.length : Int) := by omega
        replace hput := Lib.hid hput
        replace hbP := Lib.hid hbP
        replace hcP := Lib.hid hcP
        replace hR2 := Lib.hid hR2
        have z0 := hfz (p * 6)
        have z1 := hfz (p * 6 + 1)
        have z2 := hfz (p * 6 + 2)
        have z3 := hfz (p * 6 + 3)
        have z4 := hfz (p * 6 + 4)
        have z5 := hfz (p * 6 + 5)
        replace hne := Lib.hid hne
        clear hfz X2 hpl2
        replace hbB := Lib.hid hbB
        go_wp2_with fail
        go_roundw
        case rel =>
          refine ⟨p + 1, k + 1, L.set p ⟨xi, xw, xs, xv, xh, xo⟩, by omega, by omega, by go_num, by go_num, hput.out, ?_, ?_, ?_, ?_⟩
          · rw [hTp.out, hfs.out, hT.out, hne.out]; rfl
          · rw [hDp.out]; exact hD1.out
          · exact hcP.out _ _ _ (hcP.out _ _ _ (hcP.out _ _ _ (hcP.out _ _ _ (hcP.out _ _ _ (hcP.out _ _ _ hc2)))))
          · exact hbP.out _ _ _ (hbP.out _ _ _ (hbP.out _ _ _ (hbP.out _ _ _ (hbP.out _ _ _ (hbP.out _ _ _ hbB.out)))))
        case measure => simp [intOf]; omega
      · have hne : (xi != id) = false := by simp [bne, ht]
        replace ht := Lib.hid ht
        replace hR2 := Lib.hid hR2
        replace hne := Lib.hid hne
        clear X2 hpl2
        replace hbB := Lib.hid hbB
        go_wp2_with fail
        go_roundw
        case rel =>
          refine ⟨p, k + 1, L, by omega, by omega, rfl, by go_num, hR2.out, ?_, hD1.out, hc2, hbB.out⟩
          rw [hfs.out, hT.out, hne.out]; simp
        case measure => simp [intOf]; omega
    · obtain rfl : k = l.length := by omega
      have hlti : ¬ (l.length : Int) < (l.length : Int) := by omega
      rw [List.take_length] at hT
      obtain ⟨zs, hzl, hclr⟩ := run_clear_bk wr g (p * 6) (l.length - p) (cap - p) (by omega) (fun j hj => by rw [hR.2.cellAt (p * 6 + j) (by omega), List.getElem?_eq_getElem (by rw [hR.2.1]; omega)]; rfl) (fun j hj => hR.2.frozenAt _)
      have hrd := reads_out (g := g) (o := p * 6) (row_reads hR (B := wr.heap.size) hpl.2 (p := p) (by omega)) zs (fun a ha _ => by cases ha; simp)
      have hlen : p = (l.filter (fun b => b.id != id)).length := by rw [← hT, List.length_take, hR.1]; omega
      have hpi : (p : Int) < (l.length : Int) := by omega
      have hpc : (p : Int) < (cap : Int) := by omega
      have hlc : (l.length : Int) ≤ (cap : Int) := by omega
      have hfin : Below base w (wr.setCells g (p * 6) zs) := below_setC g (by omega) zs (p * 6) hb
      rw [hT] at hrd
      replace hrd := Lib.hid hrd
      replace hT := Lib.hid hT
      replace hlen := Lib.hid hlen
      replace hD := Lib.hid hD
      replace hzl := Lib.hid hzl
      replace hfin := Lib.hid hfin
      clear hR hb
      go_wp2_with fail
      go_ret
      have hrd2 := hrd.out
      have hl2 := hlen.out
      rw [hl2] at hrd2
      refine ⟨?_, ?_, hfin.out⟩
      · exact ⟨_, by rw [← hl2]; rfl⟩
      · rw [size_setC]
        rw [← hl2] at hrd2 ⊢
        exact hrd2
end Go.Proofs.Ytkpkjpdhlmjchaa
