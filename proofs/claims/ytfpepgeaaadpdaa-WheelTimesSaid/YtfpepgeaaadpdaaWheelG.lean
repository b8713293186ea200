/- wheel: come: the numbers of a row that come. -/
import Derived.Test.YtfpepgeaaadpdaaWheelF
namespace Go.Proofs.Ytfpepgeaaadpdaa
open Go Go.RowKit Go.Deep Go.Maps Go.ChangeMaps

def comeL (G : Int) (M : LM) (L : List Int) (nw : Int) : List Int := L.filter fun id => decide (turnI G (lmGet M id) * G ≤ nw)
theorem lmGet_mem {M : LM} {id : Int} (h : lmHas M id = true) : (id, lmGet M id) ∈ M := by
  unfold lmGet
  cases hf : M.find? (fun x => x.1 == id) with
  | none =>
    rw [List.find?_eq_none] at hf
    obtain ⟨x, hx, rfl⟩ := lmHas_iff.1 h
    have := hf x hx
    simp at this
  | some p =>
    have h1 := List.mem_of_find?_eq_some hf
    have h2 := List.find?_some hf
    have h3 : p.1 = id := by simpa using h2
    rw [← h3]
    exact h1
theorem turn_rng {G due : Int} (hG : 1 ≤ G ∧ G ≤ 1024) (hd : 0 ≤ due ∧ due ≤ 2199023255552) : 0 ≤ turnI G due * G ∧ turnI G due * G ≤ 2199023256576 := by
  unfold turnI
  have h1 : (due + G - 1) / G * G ≤ due + G - 1 := Int.ediv_mul_le _ (by omega)
  have h2 : 0 ≤ (due + G - 1) / G * G := Int.mul_nonneg (Int.ediv_nonneg (by omega) (by omega)) (by omega)
  omega
theorem comeL_take (G : Int) (M : LM) (L : List Int) (nw : Int) (k : Nat) (hk : k < L.length) : comeL G M (L.take (k + 1)) nw = if turnI G (lmGet M L[k]) * G ≤ nw then comeL G M (L.take k) nw ++ [L[k]] else comeL G M (L.take k) nw := by
  unfold comeL
  rw [List.take_succ_eq_append_getElem hk, List.filter_append]
  by_cases e : turnI G (lmGet M L[k]) * G ≤ nw
  · rw [if_pos e, List.filter_cons_of_pos (by simpa using e)]
    rfl
  · rw [if_neg e, List.filter_cons_of_neg (by simpa using e), List.filter_nil, List.append_nil]
section
variable {w : World} {base g bm : Nat} {G now : Int} {M : LM} {R : Nat → List Int} {A : Nat → Option Addr} {C : Nat → Nat} {T : Nat → Int} {Z : Array Value}
set_option maxRecDepth 100000 in
set_option maxHeartbeats 4000000 in
theorem wheel_come (h : WhAt w base g bm G now M R A C T Z) (inv : RowInv M R T) (hG : 1 ≤ G ∧ G ≤ 1024) (k : Nat) (hk : k < 64) (nw : Int) :
    Calls Try.prog 23 #[.pointer (some ⟨g, 0, none⟩), .int .i64 (k : Int), .int .i64 nw] w fun e w' => ∃ A' c', e = .returned (.slice A' (comeL G M (R k) nw).length c') ∧ OwnI w' w.heap.size A' c' (comeL G M (R k) nw) ∧ Below w.heap.size w w' := by
  have hrow := h.row k hk
  have hlen := inv.rlen hk
  have hrd : ∀ x ∈ R k, lmHas M x = true ∧ 0 ≤ x ∧ x ≤ 4095 ∧ 0 ≤ lmGet M x ∧ lmGet M x ≤ 2199023255552 := fun x hx => by
    have h1 := ((inv.mem k hk x).1 hx).1
    have h2 := inv.idr _ (lmGet_mem h1)
    exact ⟨h1, h2.1, h2.2.1, h2.2.2.1, h2.2.2.2⟩
  have hO := h.own k hk
  have cr := h.cell hrow
  have hki : (k : Int) < 64 := by omega
  generalize R k = L at *
  generalize A k = Ak at *
  generalize C k = Ck at *
  have hRd := fun W (hb : Below w.heap.size w W) => (hO.ints.below hb).more hb.size
  replace hRd := Lib.hid hRd
  replace hrd := Lib.hid hrd
  replace h := Lib.hid h
  replace inv := Lib.hid inv
  replace hO := Lib.hid hO
  go_enter Try.func23, Try.ntmps23
  go_wp2_with fail
  go_loopw [7, 17] (fun ov ix wr => ∃ (j : Nat) (P : Option Addr) (p : Nat), j ≤ L.length ∧ ix = .int .i64 (j : Nat) ∧ ov = .slice P (comeL G M (L.take j) nw).length p ∧ OwnI wr w.heap.size P p (comeL G M (L.take j) nw) ∧ Below w.heap.size w wr) (fun _ ix _ => L.length - (intOf ix).toNat)
  case atStart => exact ⟨0, none, 0, by omega, rfl, rfl, OwnA.nil _ _, Below.refl _ _⟩
  case round =>
    obtain ⟨j, P, p, hj, rfl, rfl, hOo, hb⟩ := hrel
    have hzB := hb.size
    by_cases hlt : j < L.length
    · have hlti : (j : Int) < (L.length : Int) := by omega
      have hst := comeL_take G M L nw j hlt
      have hx := hrd.out _ (List.getElem_mem hlt)
      have hol : (comeL G M (L.take j) nw).length ≤ 4096 := by
        refine Nat.le_trans (List.length_filter_le _ _) ?_
        rw [List.length_take]
        omega
      obtain ⟨ad, hA, hbl, hc⟩ := (hRd.out wr hb).2 (by omega)
      subst hA
      have cx : wr.cell? (ad.add j) = some (.int .i64 L[j]) := by
        refine hc j _ ?_
        rw [List.getElem?_map, List.getElem?_eq_getElem hlt]
        rfl
      obtain ⟨hx0, hx1, hx2, hx3, hx4⟩ := hx
      have hkey : (Lit.int .i64 L[j]).wf = true := wf_i64_mk (by omega) (by omega)
      have hW := h.out.call hb
      have LK := fun n => (hW.drewN n).map.look hkey
      have TU := fun n => wheel_turn (hW.drewN n) hG (lmGet M L[j]) ⟨hx3, hx4⟩
      have hrg := turn_rng (G := G) hG ⟨hx3, hx4⟩
      have C2 := fun n => (hW.drewN n).cell hW.z2
      have C0 := fun n => (hW.drewN n).cell hW.z0
      generalize comeL G M (L.take j) nw = o at *
      generalize lmGet M L[j] = du at *
      generalize turnI G du = t at *
      generalize L[j] = x at *
      have hw1 : IntKind.i64.wrap (t * G) = t * G := by
        generalize t * G = q at *
        simp [IntKind.wrap, IntKind.bits, IntKind.signed]
        omega
      replace TU := Lib.hid TU
      clear hc hW hkey
      by_cases e : t * G ≤ nw
      · have de : decide (t * G ≤ nw) = true := by simpa using e
        rw [if_pos e] at hst
        replace hst := Lib.hid hst
        replace e := Lib.hid e
        go_upto_region 5 with fail
        go_quiet ((go_at_call 28; with_reducible exact Calls.quiet_of (TU.out _)))
        have hb2 := below_drewN hb nq
        have hO2 : OwnI (wr.drewN nq) w.heap.size P p o := hOo
        have hz2 : w.heap.size ≤ (wr.drewN nq).heap.size := hzB
        clear hb hOo LK C2 C0 cx hzB hw1 hrg
        generalize wr.drewN nq = w2 at *
        go_wp2_with (first | (at_builtin; (refine wpList_push_int rfl (.tmp 36) (.tmp 38) rfl w.heap.size P p o o.length rfl rfl hO2 _ rfl rfl (by omega) hz2 ?_; intro P3 p3 w3 ho3 hp3)))
        have hb3 := hp3.below hb2 hz2 (fun b hb => (hO2.block hb).1)
        go_roundw
        case rel => exact ⟨j + 1, P3, p3, by omega, by go_num, by rw [hst.out, List.length_append]; rfl, by rw [hst.out]; exact ho3, hb3⟩
        case measure => simp [intOf]; omega
      · have de : decide (t * G ≤ nw) = false := by simpa using e
        rw [if_neg e] at hst
        replace hst := Lib.hid hst
        replace e := Lib.hid e
        go_upto_region 5 with fail
        go_quiet ((go_at_call 28; with_reducible exact Calls.quiet_of (TU.out _)))
        have hb2 := below_drewN hb nq
        have hO2 : OwnI (wr.drewN nq) w.heap.size P p o := hOo
        have hz2 : w.heap.size ≤ (wr.drewN nq).heap.size := hzB
        clear hb hOo LK C2 C0 cx hzB hw1 hrg
        generalize wr.drewN nq = w2 at *
        go_wp2_with fail
        go_roundw
        case rel => exact ⟨j + 1, P, p, by omega, by go_num, by rw [hst.out], by rw [hst.out]; exact hO2, hb2⟩
        case measure => simp [intOf]; omega
    · obtain rfl : j = L.length := by omega
      have hlti : ¬ (L.length : Int) < (L.length : Int) := by omega
      rw [List.take_length] at hOo ⊢
      go_wp2_with fail
      go_ret
      exact ⟨P, p, rfl, hOo, hb⟩
end
end Go.Proofs.Ytfpepgeaaadpdaa
