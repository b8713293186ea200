/- wheel: the document's Go. -/
import Derived.Test.YtfpepgeaaadpdaaWheelQ
namespace Go.Proofs.Ytfpepgeaaadpdaa
open Go Go.RowKit Go.Deep Go.Maps Go.ChangeMaps

section
variable {w w' : World} {g : Nat} {G now : Int} {M : LM} {A : Option Addr} {c : Nat} {B : Option Addr} {d : Nat}
theorem refwheel_go_no (h : RWhAt w g G now M A c B d) (nw : Int) (hb : nw < now ∨ 1099511627776 < nw) : Calls Try.prog 15 #[.pointer (some ⟨g, 0, none⟩), .int .i64 nw] w fun e w' => e = .returned (.tuple #[.slice none 0 0, .int .i64 15]) ∧ w = w' := by
  obtain ⟨-, c1, -, -⟩ := h.cells
  clear h
  by_cases h1 : nw < now
  · have d1 : decide (nw < now) = true := by simpa using h1
    clear hb
    go_enter Try.func15, Try.ntmps15
    go_wp2_with fail
    go_ret2
    exact ⟨rfl, rfl⟩
  · have d1 : decide (nw < now) = false := by simpa using h1
    have h2 : 1099511627776 < nw := by omega
    have d2 : decide (1099511627776 < nw) = true := by simpa using h2
    clear hb
    go_enter Try.func15, Try.ntmps15
    go_wp2_with fail
    go_ret2
    exact ⟨rfl, rfl⟩
theorem RWhAt.setNow (h : RWhAt w g G now M A c B d) (nw : Int) : RWhAt (w.setCell ⟨g, 1, none⟩ (.int .i64 nw)) g G nw M A c B d := by
  have hc : Chg (· = g) w (w.setCell ⟨g, 1, none⟩ (.int .i64 nw)) := Chg.setCell (F := (· = g)) (p := ⟨g, 1, none⟩) (Chg.refl _ _) (fun _ => rfl) _
  refine ⟨by simpa using h.blk.set_ 1 (.int .i64 nw), h.two.chg hc (fun b hb e => ?_), h.ga, h.gb⟩
  have e2 : b = g := e
  subst e2
  exact hb.elim h.ga h.gb
theorem RWhAt.drewN (h : RWhAt w g G now M A c B d) (n : Nat) : RWhAt (w.drewN n) g G now M A c B d := h.call (below_drewN (Below.refl _ _) n)
def bestV : Option Nat → Value
  | none => .int .i64 (-1)
  | some b => .int .i64 (b : Int)
def slLen : Value → Nat
  | .slice _ n _ => n
  | _ => 0
theorem mem_delAll {x : Int × Int} : ∀ (D : List Int) {M : LM}, x ∈ delAll M D → x ∈ M
  | [], _, h => h
  | _ :: r, _, h => (List.mem_filter.1 (mem_delAll r h)).1
theorem bestK_skip {G nw : Int} {M : LM} {k : Nat} {t : Int} (ht : turnI G (mAt M k).2 = t) (h : ¬ (t * G ≤ nw ∧ ∀ b, bestK G nw M k = some b → t < turnI G (mAt M b).2)) : bestK G nw M (k + 1) = bestK G nw M k := by
  rw [show bestK G nw M (k + 1) = if turnI G (mAt M k).2 * G ≤ nw ∧ (∀ b, bestK G nw M k = some b → turnI G (mAt M k).2 < turnI G (mAt M b).2) then some k else bestK G nw M k from rfl, ht, if_neg h]
theorem bestK_take {G nw : Int} {M : LM} {k : Nat} {t : Int} (ht : turnI G (mAt M k).2 = t) (h : t * G ≤ nw ∧ ∀ b, bestK G nw M k = some b → t < turnI G (mAt M b).2) : bestK G nw M (k + 1) = some k := by
  rw [show bestK G nw M (k + 1) = if turnI G (mAt M k).2 * G ≤ nw ∧ (∀ b, bestK G nw M k = some b → turnI G (mAt M k).2 < turnI G (mAt M b).2) then some k else bestK G nw M k from rfl, ht, if_pos h]
set_option maxRecDepth 100000 in
set_option maxHeartbeats 8000000 in
theorem refwheel_go (h : RWhAt w g G now M A c B d) (hs : lmSorted M) (hid : ∀ x ∈ M, 0 ≤ x.2 ∧ x.2 ≤ 2199023255552) (hl : M.length ≤ 100000) (hG : 1 ≤ G ∧ G ≤ 1024) (nw : Int) (hn : now ≤ nw ∧ nw ≤ 1099511627776) :
    Calls Try.prog 15 #[.pointer (some ⟨g, 0, none⟩), .int .i64 nw] w fun e w' => ∃ (P : Option Addr) (p : Nat) (D : List Int) (A' : Option Addr) (c' : Nat) (B' : Option Addr) (d' : Nat), e = .returned (.tuple #[.slice P D.length p, .int .i64 0]) ∧ OwnI w' w.heap.size P p D ∧ GoI G nw M D ∧ bestK G nw (delAll M D) (delAll M D).length = none ∧ RWhAt w' g G nw (delAll M D) A' c' B' d' ∧ (∀ b, InB A' b ∨ InB B' b → w.heap.size ≤ b ∨ InB A b ∨ InB B b) ∧ Chg (· = g) w w' := by
  obtain ⟨-, c1, -, -⟩ := h.cells
  have f1 := h.blk.frozen 1
  have d1 : decide (nw < now) = false := by simp; omega
  have d2 : decide (1099511627776 < nw) = false := by simp; omega
  have hglt := h.blk.lt
  replace h := Lib.hid h
  replace hs := Lib.hid hs
  go_enter Try.func15, Try.ntmps15
  go_upto_region 4 with fail
  have h1 := h.out.setNow nw
  have hc1 : Chg (· = g) w (w.setCell ⟨g, 1, none⟩ (.int .i64 nw)) := Chg.setCell (F := (· = g)) (p := ⟨g, 1, none⟩) (Chg.refl _ _) (fun _ => rfl) _
  have hgaA := h.out
  generalize w.setCell ⟨g, 1, none⟩ (.int .i64 nw) = w1 at *
  clear c1 f1
  have hz1 := hc1.size
  replace h1 := Lib.hid h1
  replace hc1 := Lib.hid hc1
  replace hgaA := Lib.hid hgaA
  go_wp2_with fail
  go_loopw [6] (fun sv wr => ∃ (D : List Int) (P : Option Addr) (p : Nat) (A' : Option Addr) (c' : Nat) (B' : Option Addr) (d' : Nat), sv = .slice P D.length p ∧ OwnI wr w.heap.size P p D ∧ GoI G nw M D ∧ D.length + (delAll M D).length ≤ M.length ∧ RWhAt wr g G nw (delAll M D) A' c' B' d' ∧ (∀ b, InB A' b ∨ InB B' b → w.heap.size ≤ b ∨ InB A b ∨ InB B b) ∧ (∀ b, InB P b → ¬ rwF g A' B' b) ∧ Chg (· = g) w wr) (fun sv _ => M.length - slLen sv)
  case atStart => exact ⟨[], none, 0, A, c, B, d, rfl, OwnA.nil _ _, GoI.nil _ _ _, by simp [delAll], h1.out, fun b hb => .inr hb, fun b hb => absurd hb inB_none, hc1.out⟩
  case round =>
    obtain ⟨D, P, p, A2, c2, B2, d2', rfl, hO, hI, hlen, hR, hnb, hap, hc⟩ := hrel
    go_wp2_with fail
    have hM2 : ∀ x ∈ delAll M D, 0 ≤ x.2 ∧ x.2 ≤ 2199023255552 := fun x hx => hid x (mem_delAll D hx)
    obtain ⟨M2, hM2e⟩ : ∃ M2, delAll M D = M2 := ⟨_, rfl⟩
    rw [hM2e] at hM2 hlen hR
    replace hM2e := Lib.hid hM2e
    replace hI := Lib.hid hI
    obtain ⟨wo, rfl⟩ : ∃ wo, wo = wr := ⟨wr, rfl⟩
    go_loopw [7, 8] (fun bv iv wx => ∃ k : Nat, k ≤ M2.length ∧ iv = .int .i64 (k : Nat) ∧ bv = bestV (bestK G nw M2 k) ∧ ∃ q, wx = wo.drewN q) (fun _ iv _ => M2.length - (intOf iv).toNat)
    case atStart => exact ⟨0, by omega, rfl, rfl, 0, rfl⟩
    case round =>
      obtain ⟨k, hk, rfl, rfl, q, hwx⟩ := hrel
      have hRx : RWhAt wr g G nw M2 A2 c2 B2 d2' := hwx ▸ hR.drewN q
      obtain ⟨x0, x1, x2, x3⟩ := hRx.cells
      replace hwx := Lib.hid hwx
      by_cases hlt : k < M2.length
      · have hlti : (k : Int) < (M2.length : Int) := by omega
        obtain ⟨ad, ae, hA, hB, hc0, hd0⟩ := rw_at hRx hlt
        have hx := hM2 _ (List.getElem_mem hlt)
        have hmA : (mAt M2 k).2 = M2[k].2 := by simp [mAt, List.getD_eq_getElem?_getD, hlt]
        obtain ⟨dk, hdk⟩ : ∃ dk, M2[k].2 = dk := ⟨_, rfl⟩
        rw [hdk] at hx hd0 hmA
        have TU := fun n => refwheel_turn (hRx.drewN n) hG dk hx
        have hrg := turn_rng (G := G) hG hx
        have hsk := fun h => bestK_skip (G := G) (nw := nw) (M := M2) (k := k) (t := turnI G dk) (by rw [hmA]) h
        have htk := fun h => bestK_take (G := G) (nw := nw) (M := M2) (k := k) (t := turnI G dk) (by rw [hmA]) h
        obtain ⟨rfl, rfl⟩ : A2 = some ad ∧ B2 = some ae := ⟨hA, hB⟩
        generalize turnI G dk = t at *
        have hw1 : IntKind.i64.wrap (t * G) = t * G := by
          generalize t * G = z at *
          simp [IntKind.wrap, IntKind.bits, IntKind.signed]
          omega
        replace TU := Lib.hid TU
        replace hsk := Lib.hid hsk
        replace htk := Lib.hid htk
        clear hA hB hmA hdk hc0
        by_cases e : t * G ≤ nw
        · have de : decide (t * G ≤ nw) = true := by simpa using e
          cases hbk : bestK G nw M2 k with
          | none =>
            have hbv : bestV (none : Option Nat) = .int .i64 (-1) := rfl
            have hst := htk.out ⟨e, fun b hb => by rw [hbk] at hb; cases hb⟩
            rw [hbv]
            replace hst := Lib.hid hst
            replace e := Lib.hid e
            replace hbk := Lib.hid hbk
            go_upto_region 9 with fail
            go_quiet ((go_at_call 29; with_reducible exact Calls.quiet_of (TU.out _)))
            go_wp2_with fail
            go_roundw
            case rel => exact ⟨k + 1, by omega, by go_num, by rw [hst.out]; rfl, q + nq, by rw [hwx.out, World.drewN_drewN]⟩
            case measure => simp [intOf]; omega
          | some b =>
            have hbv : bestV (some b) = .int .i64 (b : Int) := rfl
            obtain ⟨hb1, hb2, -⟩ := bestK_some hbk
            have hblt : b < M2.length := by omega
            obtain ⟨ad', ae', hA, hB, hcb, hdb⟩ := rw_at hRx hblt
            obtain rfl : ad = ad' := by simpa using hA
            obtain rfl : ae = ae' := by simpa using hB
            have hxb := hM2 _ (List.getElem_mem hblt)
            have hmB : (mAt M2 b).2 = M2[b].2 := by simp [mAt, List.getD_eq_getElem?_getD, hblt]
            obtain ⟨db, hdbe⟩ : ∃ db, M2[b].2 = db := ⟨_, rfl⟩
            rw [hdbe] at hxb hdb hmB
            have TB := fun n => refwheel_turn (hRx.drewN n) hG db hxb
            have hbi : decide ((b : Int) < 0) = false := by simp
            have hbl : (b : Int) < (M2.length : Int) := by omega
            have hlt2 : t < turnI G db → bestK G nw M2 (k + 1) = some k := fun h => htk.out ⟨e, fun b' hb' => by rw [hbk] at hb'; cases hb'; rw [hmB]; exact h⟩
            have hge2 : ¬ t < turnI G db → bestK G nw M2 (k + 1) = some b := fun h => (hsk.out (fun h' => h (by have := h'.2 b hbk; rwa [hmB] at this))).trans hbk
            generalize turnI G db = tb at *
            rw [hbv]
            replace TB := Lib.hid TB
            replace hlt2 := Lib.hid hlt2
            replace hge2 := Lib.hid hge2
            replace e := Lib.hid e
            replace hbk := Lib.hid hbk
            clear hA hB hcb hmB hdbe hb2
            by_cases hcmp : t < tb
            · have dc : decide (t < tb) = true := by simpa using hcmp
              have hst := Lib.hid (hlt2.out hcmp)
              replace hcmp := Lib.hid hcmp
              go_upto_region 9 with fail
              go_quiet (first
                | (go_at_call 29; with_reducible exact Calls.quiet_of (TU.out _))
                | (go_at_call 29; with_reducible exact Calls.quiet_of (TB.out _)))
              go_wp2_with fail
              go_roundw
              case rel => exact ⟨k + 1, by omega, by go_num, by rw [hst.out]; rfl, q + nq, by rw [hwx.out, World.drewN_drewN]⟩
              case measure => simp [intOf]; omega
            · have dc : decide (t < tb) = false := by simpa using hcmp
              have hst := Lib.hid (hge2.out hcmp)
              replace hcmp := Lib.hid hcmp
              go_upto_region 9 with fail
              go_quiet (first
                | (go_at_call 29; with_reducible exact Calls.quiet_of (TU.out _))
                | (go_at_call 29; with_reducible exact Calls.quiet_of (TB.out _)))
              go_wp2_with fail
              go_roundw
              case rel => exact ⟨k + 1, by omega, by go_num, by rw [hst.out]; rfl, q + nq, by rw [hwx.out, World.drewN_drewN]⟩
              case measure => simp [intOf]; omega
        · have de : decide (t * G ≤ nw) = false := by simpa using e
          have hst := hsk.out (fun h => e h.1)
          generalize bestK G nw M2 k = bk at *
          replace hst := Lib.hid hst
          replace e := Lib.hid e
          go_upto_region 9 with fail
          go_quiet ((go_at_call 29; with_reducible exact Calls.quiet_of (TU.out _)))
          go_wp2_with fail
          go_roundw
          case rel => exact ⟨k + 1, by omega, by go_num, by rw [hst.out], q + nq, by rw [hwx.out, World.drewN_drewN]⟩
          case measure => simp [intOf]; omega
      · obtain rfl : k = M2.length := by omega
        have hlti : ¬ (M2.length : Int) < (M2.length : Int) := by omega
        have hOx : OwnI wr w.heap.size P p D := hwx.out ▸ hO.call (below_drewN (Below.refl _ _) q)
        have hcx : Chg (· = g) w wr := hwx.out ▸ hc.drewN q
        have hzx := hcx.size
        cases hbk : bestK G nw M2 M2.length with
        | none =>
          have hbv : bestV (none : Option Nat) = .int .i64 (-1) := rfl
          rw [hbv]
          have hbk2 : bestK G nw (delAll M D) (delAll M D).length = none := by rw [hM2e.out]; exact hbk
          have hR2 : RWhAt wr g G nw (delAll M D) A2 c2 B2 d2' := by rw [hM2e.out]; exact hRx
          replace hbk2 := Lib.hid hbk2
          replace hR2 := Lib.hid hR2
          replace hOx := Lib.hid hOx
          replace hcx := Lib.hid hcx
          replace hnb := Lib.hid hnb
          go_wp2_with fail
          go_ret2
          first
            | exact ⟨P, p, D, rfl, hOx.out, hI.out, hbk2.out, A2, c2, B2, ⟨d2', hR2.out⟩, hnb.out, hcx.out⟩
            | exact ⟨P, p, D, rfl, hOx.out, hI.out, hbk2.out, A2, c2, B2, d2', hR2.out, hnb.out, hcx.out⟩
            | exact ⟨P, p, D, rfl, hOx.out, hI.out, hbk2.out, A2, B2, ⟨c2, d2', hR2.out⟩, hnb.out, hcx.out⟩
        | some b =>
          have hbv : bestV (some b) = .int .i64 (b : Int) := rfl
          obtain ⟨hb1, -, -⟩ := bestK_some hbk
          obtain ⟨ad, ae, hA, hB, hcb, -⟩ := rw_at hRx hb1
          have hx1 := mAt_mem hb1
          have hst := hI.out.step hs.out (b := b) (by rw [hM2e.out]; exact hbk)
          have hsn := delAll_snoc D M (mAt M2 b).1
          rw [hM2e.out] at hst hsn
          have hsh := lmDel_shorter hx1
          have hmx : M2[b].1 = (mAt M2 b).1 := by simp [mAt, List.getD_eq_getElem?_getD, hb1]
          rw [hmx] at hcb
          have hbi : ¬ ((b : Int) < 0) := by omega
          have hbl : (b : Int) < (M2.length : Int) := by omega
          rw [hbv]
          obtain ⟨x, hxe⟩ : ∃ x, (mAt M2 b).1 = x := ⟨_, rfl⟩
          rw [hxe] at hst hsn hsh hcb
          have hl2 : M2.length ≤ 100000 := by omega
          replace hst := Lib.hid hst
          replace hsn := Lib.hid hsn
          replace hbk := Lib.hid hbk
          have hRy := Lib.hid hRx
          subst hA hB
          clear hxe hx1 hmx hR hO hRx
          go_wp2_with (first | (at_builtin; (refine wpList_push_int rfl (.tmp 85) (.tmp 87) rfl w.heap.size P p D D.length rfl rfl hOx _ rfl rfl (by omega) (by omega) ?_; intro P3 p3 w3 ho3 hp3)))
          have hR3 := hRy.out.chg hp3.chg (fun b hb hF => hap b hF hb)
          have UN := Lib.hid (refwheel_unset hR3 hl2 x)
          have hc3 : Chg (· = g) w w3 := hcx.trans hp3.chg (fun b hb hF => absurd (hOx.block hF).1 (by omega))
          have hz3 := hc3.size
          clear hp3
          replace hRy := Lib.hid hRy
          go_wp2_with fail
          refine UN.out.mono ?_
          rintro e w4 ⟨rfl, A4, c4, B4, d4, hR4, hnb4, hc4⟩
          go_wp2_with fail
          go_roundw
          case rel => exact ⟨D ++ [x], P3, p3, A4, c4, B4, d4, by rw [List.length_append]; rfl, ho3.chg hc4 (fun b hb e => by have := (ho3.block hb).1; have : b = g := e; omega), hst.out, by rw [hsn.out, List.length_append, List.length_singleton]; omega, by rw [hsn.out]; exact hR4, fun b hb => .inl (by have := hnb4 b hb; omega), fun b hb hF => by
            have h5 := ho3.block hb
            rcases hF with hF | hF | hF
            · omega
            · have := hnb4 b (.inl hF); omega
            · have := hnb4 b (.inr hF); omega, hc3.trans hc4 (fun _ _ h => h)⟩
          case measure => simp [slLen]; omega
end
end Go.Proofs.Ytfpepgeaaadpdaa
