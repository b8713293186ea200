/- maglev: which sizes may be; the way of a backend. maglev: the next place of a way. maglev: a table's filling, as it lies in memory. maglev: New. maglev: New, where there is a table. -/
import Derived.Test.YtkpkjpdhlmjchaaMagH
import Derived.Test.YtkpkjpdhlmjchaaKit
import Derived.Test.YtkpkjpdhlmjchaaShelf
import Derived.Deep.LoopGhost
import Derived.RegionTactic
import Derived.Test.YtkpkjpdhlmjchaaTwo
namespace Go.Proofs.Ytkpkjpdhlmjchaa
open Go Go.RowKit Go.Deep

theorem lit_cells {w : World} {t : TypeId} (xs : List Int) : ∀ j, j < xs.length → (w.alloc (.cells (xs.map (Value.int .i64)).toArray t)).cell? ⟨w.heap.size, 0 + j, none⟩ = some (.int .i64 (xs.getD j 0)) := by
  intro j hj
  rw [(Blk.new w t _).cell (0 + j)]
  simp [hj]
def sizedB (m : Int) : Bool := [13, 251, 1021, 4093].contains m
set_option maxHeartbeats 1000000 in
theorem sized_any (m : Int) (w : World) : Calls Try.prog 98 #[.int .i64 m] w fun e w' => e = .returned (.bool (sizedB m)) ∧ Below w.heap.size w w' := by
  have C := Try.slices_Contains_int w.heap.size 0 4 4 [13, 251, 1021, 4093] m _ (by simp) (by omega) (lit_cells (w := w) (t := 3) [13, 251, 1021, 4093])
  obtain ⟨r, hr⟩ : ∃ r, sizedB m = r := ⟨_, rfl⟩
  have e0 : ([13, 251, 1021, 4093] : List Int).take 4 = [13, 251, 1021, 4093] := rfl
  rw [e0] at C
  unfold sizedB at hr ⊢
  rw [hr] at C ⊢
  replace C := Lib.hid C
  clear hr e0
  go_enter Try.func98, Try.ntmps98
  go_wp2_with fail
  refine C.out.mono ?_
  rintro e w1 ⟨rfl, rfl⟩
  go_wp2_with fail
  go_ret
  exact ⟨rfl, (by repeat (first | exact Below.refl _ _ | assumption | refine below_alloc ?_ _ | refine below_chain (by assumption) ?_ | refine below_call2 (by assumption) ?_ (by first | omega | (simp; done) | (simp; omega) | (simp [World.setCell]; omega)) | refine below_drewN ?_ _ | refine Below.drew ?_ | refine Below.alloc ?_ (by first | omega | (simp; done) | (simp; omega) | (simp [World.setCell]; omega)) _ | refine Below.setCell ?_ (by first | omega | (simp; done) | (simp; omega) | (simp [World.setCell]; omega)) _))⟩
theorem refsize_any (m : Int) (w : World) : Calls Try.prog 11 #[.int .i64 m] w fun e w' => e = .returned (.bool (sizedB m)) ∧ w = w' := by
  unfold sizedB
  by_cases h1 : m = 13
  · subst h1
    go_enter Try.func11, Try.ntmps11
    go_wp2_with fail
    go_ret
    exact ⟨rfl, rfl⟩
  by_cases h2 : m = 251
  · subst h2
    go_enter Try.func11, Try.ntmps11
    go_wp2_with fail
    go_ret
    exact ⟨rfl, rfl⟩
  by_cases h3 : m = 1021
  · subst h3
    go_enter Try.func11, Try.ntmps11
    go_wp2_with fail
    go_ret
    exact ⟨rfl, rfl⟩
  have e1 : (m == 13) = false := by simpa using h1
  have e2 : (m == 251) = false := by simpa using h2
  have e3 : (m == 1021) = false := by simpa using h3
  have e4 : ([13, 251, 1021, 4093] : List Int).contains m = (m == 4093) := by rw [Bool.eq_iff_iff]; simp [h1, h2, h3]
  replace e4 := Lib.hid e4
  clear h1 h2 h3
  go_enter Try.func11, Try.ntmps11
  go_wp2_with fail
  go_ret
  exact ⟨by rw [e4.out]; rfl, rfl⟩

theorem and_u64 (a b : Nat) (ha : a < 18446744073709551616) (hb : b < 18446744073709551616) : bits BinOp.and IntKind.u64 (a : Int) (b : Int) = ((a &&& b : Nat) : Int) := by
  have h : a &&& b < 2 ^ 64 := Nat.and_lt_two_pow _ hb
  have e1 : (BitVec.ofInt 64 (a : Int)).toNat = a := by rw [BitVec.toNat_ofInt]; omega
  have e2 : (BitVec.ofInt 64 (b : Int)).toNat = b := by rw [BitVec.toNat_ofInt]; omega
  unfold bits
  show IntKind.u64.wrap ((BitVec.ofInt 64 (a : Int) &&& BitVec.ofInt 64 (b : Int)).toNat : Int) = _
  rw [BitVec.toNat_and, e1, e2]
  simp [IntKind.wrap, IntKind.bits, IntKind.signed]; omega
theorem and_u16 (n : Nat) (h : n < 65536) : bits BinOp.and IntKind.u64 (n : Int) 65535 = (n : Int) := by
  have := and_u64 n 65535 (by omega) (by omega)
  have e : n &&& 65535 = n := by
    have := Nat.and_two_pow_sub_one_eq_mod n 16
    rw [show (65535 : Nat) = 2 ^ 16 - 1 by decide, this, Nat.mod_eq_of_lt (by omega)]
  rw [e] at this
  exact this
theorem or_u16 (c n : Nat) (hc : c < 65536) (h : n < 65536) : bits BinOp.or IntKind.u64 ((c : Int) * 65536) (n : Int) = ((c * 65536 + n : Nat) : Int) := by
  have h1 := or_u64 (c * 65536) n (by omega) (by omega)
  rw [show c * 65536 = c * 2 ^ 16 by omega, or_shift c n 16 (by omega)] at h1
  rw [show ((c : Int) * 65536) = ((c * 2 ^ 16 : Nat) : Int) by omega, h1]
set_option maxHeartbeats 2000000 in
theorem begin1_any (ka kb : Int) (c id m : Nat) (gk gi : Nat) (w : World) (hc : c < 3) (hid : id < 65536) (hm : 0 < m) (hm2 : m < 5000)
    (k0 : w.cell? ⟨gk, 0, none⟩ = some (.int .u64 ka)) (k1 : w.cell? ⟨gk, 1, none⟩ = some (.int .u64 kb)) (k2 : w.cell? ⟨gi, 0, none⟩ = some (.int .i64 (id : Int))) :
    Calls Try.prog 128 #[.int .u64 (c : Int), .int .i64 (m : Int), .pointer (some ⟨gk, 0, none⟩), .pointer (some ⟨gi, 0, none⟩)] w fun e w' => e = .returned (.int .i64 ((mhash ka kb c id % m : Nat) : Int)) ∧ Below w.heap.size w w' := by
  obtain ⟨h, hh, hlt⟩ := sip_rng ka kb ⟨(octB (c * 65536 + id) 3).toArray⟩
  have H : mhash ka kb c id = h := by
    have : c * 65536 + id = c * 65536 + id := rfl
    unfold mhash; rw [hh]; simp
  rw [H]
  have S := fun W => hash_any ka kb ⟨(octB (c * 65536 + id) 3).toArray⟩ W (by simp [octB, ByteArray.size])
  rw [hh] at S
  have O := fun W => oct_put (c * 65536 + id) 3 W (by omega) (by omega)
  have e0 : IntKind.u64.wrap ((c : Int) * 65536) = (c : Int) * 65536 := u64_id (c * 65536) (by omega)
  have e1 : IntKind.u64.wrap (id : Int) = (id : Int) := u64_id _ (by omega)
  have e2 := and_u16 id hid
  have e3 := or_u16 c id (by omega) hid
  have e4 : IntKind.u64.wrap (m : Int) = (m : Int) := u64_id _ (by omega)
  have e5 : IntKind.i64.wrap ((h : Int) % (m : Int)) = (h : Int) % (m : Int) := IntWalk.i64_in _ (by have := Int.emod_nonneg (h : Int) (show (m : Int) ≠ 0 by omega); have := Int.emod_lt_of_pos (h : Int) (show (0 : Int) < m by omega); omega)
  have e6 : ¬ m = 0 := by omega
  have e7 : (h : Int).tmod (m : Int) = (h : Int) % (m : Int) := Int.tmod_eq_emod_of_nonneg (by omega)
  generalize (⟨(octB (c * 65536 + id) 3).toArray⟩ : ByteArray) = x at *
  replace S := Lib.hid S
  replace O := Lib.hid O
  clear hh H
  go_enter Try.func128, Try.ntmps128
  go_wp2_with fail
  go_region_held3 (fun w' => Below w.heap.size w w' ∧ w'.cell? ⟨gk, 0, none⟩ = some (.int .u64 ka) ∧ w'.cell? ⟨gk, 1, none⟩ = some (.int .u64 kb) ∧ w'.cell? ⟨gi, 0, none⟩ = some (.int .i64 (id : Int))) ((first | assumption | ((refine ⟨?_, ?_⟩; (first | assumption | exact (Below.refl _ _).drew | exact Below.refl _ _); go_keep)))) (first
    | (go_at_call 129; refine (O.out _).mono ?_; rintro e w2 ⟨rfl, hb2⟩; have hS := hold3 (by assumption) hb2)
    | (go_at_call 118; refine (S.out _).mono ?_; rintro e w2 ⟨rfl, hb2⟩; have hS := hold3 (by assumption) hb2))
  all_goals
    go_wp2_with fail
    go_ret
    refine ⟨by rw [Int.natCast_emod]; rfl, hS.1⟩

theorem blk3_facts {w1 w4 : World} {g : Nat} {t : TypeId} {c0 c1 c2 : Value} (h : Blk w1 g t #[c0, c1, c2]) (hb : Below w1.heap.size w1 w4) :
    (w4.cell? ⟨g, 0, none⟩ = some c0 ∧ w4.cell? ⟨g, 1, none⟩ = some c1 ∧ w4.cell? ⟨g, 2, none⟩ = some c2) ∧ w4.frozen? ⟨g, 0, none⟩ = false ∧ w4.frozen? ⟨g, 1, none⟩ = false ∧ w4.frozen? ⟨g, 2, none⟩ = false := by
  have h3 := h.call hb
  exact ⟨⟨h3.cell 0, h3.cell 1, h3.cell 2⟩, h3.frozen 0, h3.frozen 1, h3.frozen 2⟩
theorem set3 {w w1 : World} {B g : Nat} {a0 a1 a2 : Value} (h : Below B w w1) (hg : B ≤ g) : Below B w (((w1.setCell ⟨g, 0, none⟩ a0).setCell ⟨g, 1, none⟩ a1).setCell ⟨g, 2, none⟩ a2) :=
  ((h.setCell hg _).setCell hg _).setCell hg _
abbrev wayV (x : WayT) : Value := .agg #[.int .i64 x.1, .int .i64 (x.2.1 : Nat), .int .i64 (x.2.2 : Nat)]
set_option maxRecDepth 100000 in
set_option maxHeartbeats 4000000 in
theorem begin_any (ka kb : Int) (id m : Nat) (w : World) (hid : id < 65536) (hm : 1 < m) (hm2 : m < 5000) :
    Calls Try.prog 99 #[.agg #[.int .u64 ka, .int .u64 kb], .int .i64 (id : Int), .int .i64 (m : Int)] w fun e w' => e = .returned (wayV (wayOf ka kb m (id : Int))) ∧ Below w.heap.size w w' := by
  obtain ⟨p1, hp1⟩ : ∃ p, mhash ka kb 1 id % m = p := ⟨_, rfl⟩
  obtain ⟨p2, hp2⟩ : ∃ p, mhash ka kb 2 id % (m - 1) = p := ⟨_, rfl⟩
  have hp2' : p2 < m - 1 := hp2 ▸ Nat.mod_lt _ (by omega)
  have hv : (wayV (wayOf ka kb m (id : Int))) = .agg #[.int .i64 (id : Int), .int .i64 (p1 : Int), .int .i64 ((p2 : Int) + 1)] := by
    unfold wayOf wayV; simp only [Int.toNat_natCast, hp1, hp2]; rfl
  rw [hv]
  obtain ⟨w0, hw0⟩ : ∃ w0, w0 = ((w.alloc (.cells #[.int .u64 ka, .int .u64 kb] 25)).alloc (.cells #[.int .i64 (id : Int)] 3)).alloc (.cells #[.int .i64 0, .int .i64 0, .int .i64 0] 164) := ⟨_, rfl⟩
  have hb0 : Below w.heap.size w w0 := hw0 ▸ (by repeat (first | exact Below.refl _ _ | assumption | refine below_alloc ?_ _ | refine below_chain (by assumption) ?_ | refine below_call2 (by assumption) ?_ (by first | omega | (simp; done) | (simp; omega) | (simp [World.setCell]; omega)) | refine below_drewN ?_ _ | refine Below.drew ?_ | refine Below.alloc ?_ (by first | omega | (simp; done) | (simp; omega) | (simp [World.setCell]; omega)) _ | refine Below.setCell ?_ (by first | omega | (simp; done) | (simp; omega) | (simp [World.setCell]; omega)) _))
  have B1 : Blk w0 w.heap.size 25 #[.int .u64 ka, .int .u64 kb] := hw0 ▸ ((Blk.new w _ _).alloc _).alloc _
  have B2 : Blk w0 (w.heap.size + 1) 3 #[.int .i64 (id : Int)] := hw0 ▸ by simpa using (Blk.new (w.alloc (.cells #[.int .u64 ka, .int .u64 kb] 25)) 3 #[.int .i64 (id : Int)]).alloc (.cells #[.int .i64 0, .int .i64 0, .int .i64 0] 164)
  have B3 : Blk w0 (w.heap.size + 1 + 1) 164 #[.int .i64 0, .int .i64 0, .int .i64 0] := hw0 ▸ by simpa using Blk.new ((w.alloc (.cells #[.int .u64 ka, .int .u64 kb] 25)).alloc (.cells #[.int .i64 (id : Int)] 3)) 164 #[.int .i64 0, .int .i64 0, .int .i64 0]
  have K : ∀ (c n q : Nat) (ci : Int) (W : World), ci = (c : Int) → c < 3 → 0 < n → n < 5000 → mhash ka kb c id % n = q → Below w0.heap.size w0 W → Calls Try.prog 128 #[.int .u64 ci, .int .i64 (n : Int), .pointer (some ⟨w.heap.size, 0, none⟩), .pointer (some ⟨w.heap.size + 1, 0, none⟩)] W
      fun e w' => e = .returned (.int .i64 (q : Int)) ∧ Below W.heap.size W w' := by
    rintro c n q ci W rfl hc hn hn2 hq hb
    have C1 := B1.call hb
    have C2 := B2.call hb
    rw [← hq]
    exact begin1_any ka kb c id n _ _ W hc hid hn hn2 (C1.cell 0) (C1.cell 1) (C2.cell 0)
  have K1 := fun W => K 1 m p1 1 W rfl (by omega) (by omega) hm2 hp1
  have K2 := fun W => K 2 (m - 1) p2 2 W rfl (by omega) (by omega) (by omega) hp2
  have hz : ((m - 1 : Nat) : Int) = (m : Int) - 1 := by omega
  rw [hz] at K2
  replace K1 := Lib.hid K1
  replace K2 := Lib.hid K2
  have e1 : IntKind.i64.wrap ((m : Int) - 1) = (m : Int) - 1 := IntWalk.i64_in _ (by omega)
  have e2 : IntKind.i64.wrap ((p2 : Int) + 1) = (p2 : Int) + 1 := IntWalk.i64_in _ (by omega)
  clear hp1 hp2 hv hz K
  go_enter Try.func99, Try.ntmps99
  go_wp2_with fail
  rw [← hw0]
  clear hw0
  have d0 := B2.cell 0
  simp at d0
  have hS0 : Below w0.heap.size w0 w0.drew := (Below.refl _ _).drew
  go_region_with (first
    | (go_at_call 128; (with_reducible refine (K1.out _ (by assumption)).mono ?_); rintro e w2 ⟨rfl, hb2⟩; have hS := below_chain hb2 (by assumption); clear d0; have d0 := (B2.call hS).cell 0; simp at d0; obtain ⟨⟨g0, g1, g2⟩, q0, q1, q2⟩ := blk3_facts B3 hS)
    | (go_at_call 128; (with_reducible refine (K2.out _ (by assumption)).mono ?_); rintro e w2 ⟨rfl, hb2⟩; have hS := below_chain hb2 (by assumption); clear d0; have d0 := (B2.call hS).cell 0; simp at d0; obtain ⟨⟨g0, g1, g2⟩, q0, q1, q2⟩ := blk3_facts B3 hS))
  all_goals
    go_wp2_with fail
    refine bodyPost_ret (v := .agg #[.int .i64 (id : Int), .int .i64 (p1 : Int), .int .i64 ((p2 : Int) + 1)]) (by simp [results, Try.results99, go_sem, g0, g1, g2]) rfl ?_
    exact ⟨rfl, set3 (below_chain hS hb0) (by omega)⟩
end Go.Proofs.Ytkpkjpdhlmjchaa

namespace Go.Proofs.Ytkpkjpdhlmjchaa
open Go Go.RowKit Go.Deep

abbrev PlAt (w : World) (g m : Nat) (pl : List Int) : Prop := w.rowIs g 3 m (fun p => .int .i64 (pl.getD p 0))
abbrev WayRow (w : World) (base : Nat) (g N cap : Nat) (cs : List Value) : Prop := w.ownsRow base 164 3 (.slice (some ⟨g, 0, none⟩) N cap) N cs
theorem emod_wayN (a s m j : Nat) : (((wayN a s m j : Nat) : Int) + (s : Int)).tmod (m : Int) = ((wayN a s m (j + 1) : Nat) : Int) := by
  rw [Int.tmod_eq_emod_of_nonneg (by omega), ← wayN_next]
  rfl
set_option maxRecDepth 100000 in
set_option maxHeartbeats 4000000 in
theorem way_take (base gw N cap i : Nat) (cs : List Value) (a s m j0 J gp : Nat) (pl : List Int) (w : World) (hw : WayRow w base gw N cap cs) (hi : i < N) (c1 : cs[i * 3 + 1]? = some (.int .i64 ((wayN a s m j0 : Nat) : Int))) (c2 : cs[i * 3 + 2]? = some (.int .i64 (s : Int)))
    (hp : PlAt w gp m pl) (hm : 0 < m) (hm2 : m < 5000) (hs : s < m) (h0 : j0 ≤ J) (hJ : ∀ j, j0 ≤ j → j < J → pl.getD (wayN a s m j) 0 ≠ 0) (hfree : pl.getD (wayN a s m J) 0 = 0) (hne : gw ≠ gp)
    (p : Addr) (hpp : p = ⟨gw, i * 3, none⟩) :
    Calls Try.prog 100 #[.pointer (some p), .slice (some ⟨gp, 0, none⟩) m m] w fun e w' => e = .returned (.int .i64 ((wayN a s m J : Nat) : Int)) ∧ WayRow w' base gw N cap (cs.set (i * 3 + 1) (.int .i64 ((wayN a s m (J + 1) : Nat) : Int))) ∧ Chg (· = gw) w w' := by
  subst hpp
  have hjm := fun j => wayN_lt a s j hm
  have hst : cs.set (i * 3 + 1) (.int .i64 ((wayN a s m j0 : Nat) : Int)) = cs := by
    refine List.ext_getElem? fun k => ?_
    rw [List.getElem?_set]
    split
    · rename_i h; subst h; split
      · rw [c1]
      · rename_i h; rw [List.getElem?_eq_none (by omega)] at c1; cases c1
    · rfl
  have hlen : cs.length = N * 3 := hw.1
  have hfz := fun (W : World) (cs' : List Value) (h : WayRow W base gw N cap cs') (j : Nat) => h.frozenAt j
  have hms := fun j => emod_wayN a s m j
  have hms2 := fun j => Lib.hid (emod_wayN a s m j)
  replace hJ := Lib.hid hJ
  replace hfree := Lib.hid hfree
  replace hjm := Lib.hid hjm
  replace hlen := Lib.hid hlen
  replace hst := Lib.hid hst
  replace hfz := Lib.hid hfz
  replace c1 := Lib.hid c1
  clear hms
  go_enter Try.func100, Try.ntmps100
  go_wp2_with fail
  go_loopg [] (J - j0) (fun g wx => ∃ j, j0 ≤ j ∧ j + g = J ∧ WayRow wx base gw N cap (cs.set (i * 3 + 1) (.int .i64 ((wayN a s m j : Nat) : Int))) ∧ PlAt wx gp m pl ∧ Chg (· = gw) w wx)
  case atStart => exact ⟨j0, by omega, by omega, by rw [hst.out]; exact hw, hp, Chg.refl _ _⟩
  case round =>
    obtain ⟨j, hj0, hjg, hW, hP, hC⟩ := hrel
    have d1 := hW.cellAt (i * 3 + 1) (by omega)
    have d2 := hW.cellAt (i * 3 + 2) (by omega)
    rw [List.getElem?_set_self (by have := hlen.out; omega)] at d1
    rw [List.getElem?_set_ne (by omega), c2] at d2
    have q1 := hW.frozenAt (i * 3 + 1)
    have hjl := hjm.out j
    have p1 := hP.cell hjl
    obtain ⟨v, hv⟩ : ∃ v, pl.getD (wayN a s m j) 0 = v := ⟨_, rfl⟩
    rw [hv] at p1
    replace hv := Lib.hid hv
    have hstep := hms2 j
    obtain ⟨x, hx⟩ : ∃ x, wayN a s m j = x := ⟨_, rfl⟩
    rw [hx] at d1 p1 hjl hstep
    have hjl2 : (x : Int) < (m : Int) := by omega
    have e0 : IntKind.i64.wrap ((x : Int) + (s : Int)) = (x : Int) + (s : Int) := IntWalk.i64_in _ (by omega)
    have e1 : ¬ m = 0 := by omega
    have e2 := hstep.out
    replace hx := Lib.hid hx
    clear hstep
    have hsz : ∀ u, WayRow (wr.setCell ⟨gw, i * 3 + 1, none⟩ u) base gw N cap (cs.set (i * 3 + 1) u) := fun u => by
      have := (hW.stored (i * 3 + 1) u).1
      rwa [List.set_set] at this
    have hsp : ∀ u, PlAt (wr.setCell ⟨gw, i * 3 + 1, none⟩ u) gp m pl := fun u => hP.setOther (fun e => hne e.symm) u
    have hsc : ∀ u, Chg (· = gw) w (wr.setCell ⟨gw, i * 3 + 1, none⟩ u) := fun u => hC.setCell (fun _ => rfl) u
    replace hsz := Lib.hid hsz
    replace hsp := Lib.hid hsp
    replace hsc := Lib.hid hsc
    clear hW hP hC hw hp
    cases gk with
    | zero =>
      obtain rfl : j = J := by omega
      have hv0 : v = 0 := by rw [← hv.out]; exact hfree.out
      subst hv0
      go_wp2_with fail
      go_region
      go_wp2_with fail
      go_ret
      exact ⟨by rw [← hx.out]; rfl, hsz.out _, hsc.out _⟩
    | succ g =>
      have hv0 : (v != 0) = true := by
        have := hJ.out j hj0 (by omega)
        rw [hv.out] at this
        simpa using this
      go_wp2_with fail
      go_region
      go_wp2_with fail
      go_roundg g
      case measure => omega
      case rel => exact ⟨j + 1, by omega, by omega, hsz.out _, hsp.out _, hsc.out _⟩
end Go.Proofs.Ytkpkjpdhlmjchaa

namespace Go.Proofs.Ytkpkjpdhlmjchaa
open Go Go.RowKit Go.Deep

def wcell (x : WayT) (m j : Nat) : List Value := [.int .i64 x.1, .int .i64 ((wayN x.2.1 x.2.2 m j : Nat) : Int), .int .i64 ((x.2.2 : Nat) : Int)]
def wcells (ws : List WayT) (m : Nat) (js : List Nat) : List Value := (List.range ws.length).flatMap fun i => wcell (ws.getD i (0, 0, 0)) m (js.getD i 0)
abbrev way0 (x : WayT) : List Value := [.int .i64 x.1, .int .i64 ((x.2.1 : Nat) : Int), .int .i64 ((x.2.2 : Nat) : Int)]
theorem wcells_len (ws : List WayT) (m : Nat) (js : List Nat) : (wcells ws m js).length = ws.length * 3 := by
  unfold wcells; rw [flat_len _ 3 (fun _ => rfl), List.length_range]
theorem wcells_at {ws : List WayT} {m : Nat} {js : List Nat} {i j : Nat} (hi : i < ws.length) (hj : j < 3) : (wcells ws m js)[i * 3 + j]? = (wcell (ws.getD i (0, 0, 0)) m (js.getD i 0))[j]? := by
  unfold wcells
  exact flat_at _ 3 (fun _ => rfl) _ i j i (by rw [List.getElem?_range hi]) hj
theorem wcells_set {ws : List WayT} {m : Nat} {js : List Nat} {i j : Nat} (hi : i < ws.length) (hl : js.length = ws.length) :
    (wcells ws m js).set (i * 3 + 1) (.int .i64 ((wayN (ws.getD i (0, 0, 0)).2.1 (ws.getD i (0, 0, 0)).2.2 m j : Nat) : Int)) = wcells ws m (js.set i j) := by
  refine List.ext_getElem? fun q => ?_
  rcases Nat.lt_or_ge q (ws.length * 3) with hq | hq
  · obtain ⟨k, r, hr, rfl⟩ : ∃ k r, r < 3 ∧ q = k * 3 + r := ⟨q / 3, q % 3, by omega, by omega⟩
    have hk : k < ws.length := by omega
    rw [wcells_at hk hr]
    by_cases e : i = k
    · subst e
      by_cases e2 : r = 1
      · subst e2
        rw [List.getElem?_set_self (by rw [wcells_len]; omega)]
        simp [wcell, List.getD_eq_getElem?_getD, hl, hi]
      · rw [List.getElem?_set_ne (by omega), wcells_at hk hr]
        unfold wcell
        rcases (by omega : r = 0 ∨ r = 2) with h | h <;> subst h <;> rfl
    · rw [List.getElem?_set_ne (by omega), wcells_at hk hr]
      have : (js.set i j).getD k 0 = js.getD k 0 := by simp [List.getD_eq_getElem?_getD, List.getElem?_set_ne e]
      rw [this]
  · rw [List.getElem?_eq_none (by rw [List.length_set, wcells_len]; omega), List.getElem?_eq_none (by rw [wcells_len]; omega)]
theorem wcells_zero {ws : List WayT} {m : Nat} (h : ∀ x ∈ ws, x.2.1 < m) : ws.flatMap way0 = wcells ws m (List.replicate ws.length 0) := by
  refine List.ext_getElem? fun q => ?_
  rcases Nat.lt_or_ge q (ws.length * 3) with hq | hq
  · obtain ⟨k, r, hr, rfl⟩ : ∃ k r, r < 3 ∧ q = k * 3 + r := ⟨q / 3, q % 3, by omega, by omega⟩
    have hk : k < ws.length := by omega
    rw [wcells_at hk hr, flat_at way0 3 (fun _ => rfl) ws k r ws[k] (List.getElem?_eq_getElem hk) hr]
    have e1 : ws.getD k (0, 0, 0) = ws[k] := by rw [List.getD_eq_getElem?_getD, List.getElem?_eq_getElem hk]; rfl
    have e2 : (List.replicate ws.length 0).getD k 0 = 0 := by simp [List.getD_eq_getElem?_getD, hk]
    rw [e1, e2]
    unfold wcell way0
    rw [wayN_zero _ _ _ (h _ (List.getElem_mem hk))]
  · rw [List.getElem?_eq_none (by rw [flat_len way0 3 (fun _ => rfl)]; omega), List.getElem?_eq_none (by rw [wcells_len]; omega)]

/-- A table that was made: its key, and whose each place is. -/
def TabAt (w : World) (g : Nat) (ka kb : Int) (pl : List Int) : Prop :=
  ∃ gp, Blk w g 167 #[.int .u64 ka, .int .u64 kb, .slice (some ⟨gp, 0, none⟩) pl.length pl.length] ∧ PlAt w gp pl.length pl
theorem TabAt.keep {w w' : World} {g : Nat} {ka kb : Int} {pl : List Int} (h : TabAt w g ka kb pl) (hb : Below w.heap.size w w') : TabAt w' g ka kb pl := by
  obtain ⟨gp, h1, h2⟩ := h
  exact ⟨gp, h1.call hb, h2.of_block (hb.block gp h2.lt)⟩
theorem TabAt.alloc {w : World} {g : Nat} {ka kb : Int} {pl : List Int} (h : TabAt w g ka kb pl) (o : Obj) : TabAt (w.alloc o) g ka kb pl := h.keep (below_alloc (Below.refl _ _) o)

/-- A table while it is filled: after t turns. -/
structure MagSt (w : World) (base gw cap gp gt m : Nat) (ka kb : Int) (ws : List WayT) (t : Nat) : Prop where
  way : WayRow w base gw ws.length cap (wcells ws m (mrun ws m t).2)
  pl : PlAt w gp m (mrun ws m t).1
  tab : Blk w gt 167 #[.int .u64 ka, .int .u64 kb, .slice (some ⟨gp, 0, none⟩) m m]
theorem MagSt.ne1 {w : World} {base gw cap gp gt m : Nat} {ka kb : Int} {ws : List WayT} {t : Nat} (h : MagSt w base gw cap gp gt m ka kb ws t) : gw ≠ gp ∧ gw ≠ gt ∧ gp ≠ gt := by
  obtain ⟨cp, hp, _⟩ := h.pl
  have ht := h.tab
  have hwy : ∃ cur, Blk w gw 164 cur := by
    rcases h.way.2 with ⟨h', _⟩ | ⟨g', cap', cur, h', _, hg, _⟩
    · cases h'
    · simp only [Value.slice.injEq, Option.some.injEq, Addr.mk.injEq, and_true, true_and] at h'
      obtain ⟨rfl, _⟩ := h'
      exact ⟨cur, hg⟩
  obtain ⟨cur, hwy⟩ := hwy
  have hpp : Blk w gp 3 cp := hp
  exact ⟨Blk.ne_ hwy hpp (by decide), Blk.ne_ hwy ht (by decide), Blk.ne_ hpp ht (by decide)⟩
theorem getD_set_if (l : List Int) (x p : Nat) (v : Int) (hx : x < l.length) : (l.set x v).getD p 0 = if p = x then v else l.getD p 0 := by
  by_cases e : p = x
  · subst e; simp [List.getD_eq_getElem?_getD, hx]
  · rw [if_neg e]; simp [List.getD_eq_getElem?_getD, List.getElem?_set_ne (fun h => e h.symm)]
/-! One turn. -/
theorem MagSt.turn {w w1 : World} {base gw cap gp gt m : Nat} {ka kb : Int} {ws : List WayT} {t i J : Nat} (h : MagSt w base gw cap gp gt m ka kb ws t) (hw : WaysOk ws m) (ht : t < m) (hi : i < ws.length) (hti : t % ws.length = i)
    (hJ : goJ (mrun ws m t).1 (ws.getD i (0, 0, 0)).2.1 (ws.getD i (0, 0, 0)).2.2 m (m - (mrun ws m t).2.getD i 0) ((mrun ws m t).2.getD i 0) = J)
    (hrow : WayRow w1 base gw ws.length cap ((wcells ws m (mrun ws m t).2).set (i * 3 + 1) (.int .i64 ((wayN (ws.getD i (0, 0, 0)).2.1 (ws.getD i (0, 0, 0)).2.2 m (J + 1) : Nat) : Int)))) (hc : Chg (· = gw) w w1) :
    MagSt (w1.setCell ⟨gp, wayN (ws.getD i (0, 0, 0)).2.1 (ws.getD i (0, 0, 0)).2.2 m J, none⟩ (.int .i64 (ws.getD i (0, 0, 0)).1)) base gw cap gp gt m ka kb ws (t + 1) := by
  have hS := mrun_inv hw (by omega) t (by omega)
  have hr : mrun ws m (t + 1) = ((mrun ws m t).1.set (wayN (ws.getD i (0, 0, 0)).2.1 (ws.getD i (0, 0, 0)).2.2 m J) (ws.getD i (0, 0, 0)).1, (mrun ws m t).2.set i (J + 1)) := by
    show turnM ws m (mrun ws m t) (t % ws.length) = _
    rw [hti]
    unfold turnM
    simp only [hJ]
  obtain ⟨n1, n2, n3⟩ := h.ne1
  rw [wcells_set hi hS.lenJ] at hrow
  refine ⟨?_, ?_, ?_⟩
  · rw [hr]
    exact ownsRow_chg hrow ((Chg.refl (fun b => b = gp) w1).setCell (p := ⟨gp, _, none⟩) (fun _ => rfl) _) (fun b hb => by simp [Value.ownBlock] at hb; omega)
  · rw [hr]
    have hp := (rowIs_chg h.pl hc (fun e => n1 e.symm)).set (wayN (ws.getD i (0, 0, 0)).2.1 (ws.getD i (0, 0, 0)).2.2 m J) (.int .i64 (ws.getD i (0, 0, 0)).1)
    refine hp.congr fun p _ => ?_
    rw [getD_set_if _ _ _ _ (by rw [hS.len]; exact wayN_lt _ _ _ (by omega))]
    split <;> rfl
  · exact (h.tab.chg hc (fun e => n2 e.symm)).far (p := ⟨gp, _, none⟩) (fun e => n3 e.symm) _
end Go.Proofs.Ytkpkjpdhlmjchaa

namespace Go.Proofs.Ytkpkjpdhlmjchaa
open Go Go.RowKit Go.Deep

def newE (m : Int) (n : Nat) : Int := if sizedB m then (if n = 0 then 8 else if m < n then 9 else 0) else 1
set_option maxHeartbeats 2000000 in
theorem new_none (ver : Int) (l : List Bk) (A : Option Addr) (c : Nat) (ka kb m : Int) (w : World) (_hl : l.length ≤ 1000000) (he : newE m l.length ≠ 0) :
    Calls Try.prog 60 #[.agg #[.int .i64 ver, .slice A l.length c], .agg #[.int .u64 ka, .int .u64 kb], .int .i64 m] w fun e w' => e = .returned (.tuple #[.pointer none, .int .i64 (newE m l.length)]) ∧ Below w.heap.size w w' := by
  have S := sized_any m
  unfold newE at he ⊢
  obtain ⟨o, ho⟩ : ∃ o, sizedB m = o := ⟨_, rfl⟩
  rw [ho] at he S ⊢
  replace S := Lib.hid S
  clear ho
  cases o
  · clear he
    go_enter Try.func60, Try.ntmps60
    go_wp2_with fail
    go_step3
    go_wp2_with (go_at_call 98; with_reducible refine (S.out _).mono ?_; rintro e w1 ⟨rfl, hb1⟩)
    try rw [Exit.noGoto_ret]
    go_ret2
    exact ⟨rfl, (by repeat (first | exact Below.refl _ _ | assumption | refine below_alloc ?_ _ | refine below_chain (by assumption) ?_ | refine below_call2 (by assumption) ?_ (by first | omega | (simp; done) | (simp; omega) | (simp [World.setCell]; omega)) | refine below_drewN ?_ _ | refine Below.drew ?_ | refine Below.alloc ?_ (by first | omega | (simp; done) | (simp; omega) | (simp [World.setCell]; omega)) _ | refine Below.setCell ?_ (by first | omega | (simp; done) | (simp; omega) | (simp [World.setCell]; omega)) _))⟩
  · rw [if_pos rfl] at he ⊢
    have B0 := (Blk.new w 36 #[.int .i64 ver, .slice A l.length c]).alloc (.cells #[.int .u64 ka, .int .u64 kb] 25)
    by_cases h0 : l.length = 0
    · rw [if_pos h0]
      have e0 : ((l.length : Int) == 0) = true := by rw [h0]; rfl
      replace h0 := Lib.hid h0
      clear he
      go_enter Try.func60, Try.ntmps60
      go_wp2_with fail
      go_step3
      go_wp2_with (go_at_call 98; with_reducible refine (S.out _).mono ?_; rintro e w1 ⟨rfl, hb1⟩; have B1 := B0.call hb1; have c1 := B1.cell 1; simp at c1)
      try rw [Exit.noGoto_ret]
      go_ret2
      exact ⟨rfl, (by repeat (first | exact Below.refl _ _ | assumption | refine below_alloc ?_ _ | refine below_chain (by assumption) ?_ | refine below_call2 (by assumption) ?_ (by first | omega | (simp; done) | (simp; omega) | (simp [World.setCell]; omega)) | refine below_drewN ?_ _ | refine Below.drew ?_ | refine Below.alloc ?_ (by first | omega | (simp; done) | (simp; omega) | (simp [World.setCell]; omega)) _ | refine Below.setCell ?_ (by first | omega | (simp; done) | (simp; omega) | (simp [World.setCell]; omega)) _))⟩
    · rw [if_neg h0] at he ⊢
      have hm : m < l.length := by
        rcases Int.lt_or_le m l.length with h | h
        · exact h
        · rw [if_neg (by omega)] at he; exact absurd rfl he
      rw [if_pos hm]
      have e0 : ((l.length : Int) == 0) = false := by rw [beq_eq_false_iff_ne]; omega
      have e1 : decide (m < (l.length : Int)) = true := by simpa using hm
      clear he h0 hm
      go_enter Try.func60, Try.ntmps60
      go_wp2_with fail
      go_step3
      go_wp2_with (go_at_call 98; with_reducible refine (S.out _).mono ?_; rintro e w1 ⟨rfl, hb1⟩; have B1 := B0.call hb1; have c1 := B1.cell 1; simp at c1)
      try rw [Exit.noGoto_ret]
      go_ret2
      exact ⟨rfl, (by repeat (first | exact Below.refl _ _ | assumption | refine below_alloc ?_ _ | refine below_chain (by assumption) ?_ | refine below_call2 (by assumption) ?_ (by first | omega | (simp; done) | (simp; omega) | (simp [World.setCell]; omega)) | refine below_drewN ?_ _ | refine Below.drew ?_ | refine Below.alloc ?_ (by first | omega | (simp; done) | (simp; omega) | (simp [World.setCell]; omega)) _ | refine Below.setCell ?_ (by first | omega | (simp; done) | (simp; omega) | (simp [World.setCell]; omega)) _))⟩
end Go.Proofs.Ytkpkjpdhlmjchaa

namespace Go.Proofs.Ytkpkjpdhlmjchaa
open Go Go.RowKit Go.Deep

theorem info_way : (Try.prog.info? 164).map (fun i => (i.zero, i.size, i.bytes)) = some (some (.agg #[.int .i64 0, .int .i64 0, .int .i64 0]), 3, 24) := by kernel_rfl
abbrev OwnW (w : World) (base : Nat) (A : Option Addr) (c : Nat) (l : List WayT) : Prop := OwnA way0 3 164 w base A c l
theorem wpList_push_way {W : World} {cs : Array Value} {ops : Array Oper} {rest : List Oper} {o : Oper} {a : Act} {Q : Exit → Act → World → Prop} (hgd : o.guard = none) (s x : Operand)
    (ho : o.op = .call { callee := .builtin .append, args := #[s, x], argTypes := #[162, 162] })
    (base : Nat) (A : Option Addr) (c : Nat) (l : List WayT) (v : WayT) (n : Nat) (hn : l.length = n) (hs : a.eval s = .slice A n c) (hown : OwnW W base A c l) (g : Nat) (hg : g = W.heap.size) (hcs : (way0 v).toArray = cs)
    (hx : a.eval x = .slice (some ⟨g, 0, none⟩) 1 1) (hl : l.length ≤ 1000000) (hbase : base ≤ W.heap.size)
    (h : ∀ A' c' w', OwnW w' base A' c' (l ++ [v]) → Pushed W w' A A' → wpList Try.prog ops Q rest (a.put o.dst (.slice A' (n + 1) c')) w') : wpList Try.prog ops Q (o :: rest) a (W.alloc (.cells cs 164)) := by
  obtain ⟨i0, hi0, hz0, hz1, hz2⟩ := info_parts info_way
  exact wpList_push way0 3 (fun _ => rfl) (fun b u hu => by
    simp at hu; rcases hu with rfl | rfl | rfl <;> rfl) (by omega) 162 i0 _ 24 Try.underlying162 hi0 hz0 hz1 hz2 rfl (by omega) hgd s x ho base A c l v n hn hs hown g hg hcs hx hl hbase h

set_option maxRecDepth 100000 in
set_option maxHeartbeats 8000000 in
theorem new_some (ver : Int) (l : List Bk) (A : Option Addr) (c : Nat) (ka kb : Int) (m : Nat) (w : World) (hr : Reads w w.heap.size 6 A l.length (l.flatMap Bk.cells)) (hm : m = 13 ∨ m = 251) (h0 : 0 < l.length) (hlm : l.length ≤ m) (hid : ∀ b ∈ l, 1 ≤ b.id ∧ b.id ≤ 65535) :
    Calls Try.prog 60 #[.agg #[.int .i64 ver, .slice A l.length c], .agg #[.int .u64 ka, .int .u64 kb], .int .i64 (m : Int)] w fun e w' => ∃ g, e = .returned (.tuple #[.pointer (some ⟨g, 0, none⟩), .int .i64 0]) ∧ TabAt w' g ka kb (tableOf ka kb m (l.map Bk.id)) ∧ w.heap.size ≤ g ∧ Below w.heap.size w w' := by
  have hs : sizedB (m : Int) = true := by rcases hm with rfl | rfl <;> rfl
  have S := sized_any (m : Int)
  rw [hs] at S
  obtain ⟨ws, hws⟩ : ∃ ws, l.map (fun b => wayOf ka kb m b.id) = ws := ⟨_, rfl⟩
  have hws2 : (l.map Bk.id).map (wayOf ka kb m) = ws := by rw [List.map_map]; exact hws
  have hwl : ws.length = l.length := by rw [← hws, List.length_map]
  have hok : WaysOk ws m := hws2 ▸ wayOf_ok hm (fun i hi => by obtain ⟨b, hb, rfl⟩ := List.mem_map.1 hi; have := hid b hb; omega)
  have hsk : ∀ x ∈ ws, x.2.2 < m := by
    intro x hx
    rw [← hws] at hx
    obtain ⟨b, _, rfl⟩ := List.mem_map.1 hx
    have := Nat.mod_lt (mhash ka kb 2 b.id.toNat) (show m - 1 > 0 by omega)
    unfold wayOf; simp only; omega
  have htab : tableOf ka kb m (l.map Bk.id) = (mrun ws m m).1 := by unfold tableOf; rw [hws2]
  have hwk : ∀ (k : Nat) (b : Bk), l[k]? = some b → ws.take (k + 1) = ws.take k ++ [wayOf ka kb m b.id] := by
    intro k b hb
    obtain ⟨hk, rfl⟩ := List.getElem?_eq_some_iff.1 hb
    rw [List.take_succ_eq_append_getElem (by omega)]
    simp [← hws]
  have hidk : ∀ (k : Nat) (b : Bk), l[k]? = some b → ∃ n : Nat, b.id = n ∧ 1 ≤ n ∧ n < 65536 := by
    intro k b hb
    have := hid b (List.mem_of_getElem? hb)
    exact ⟨b.id.toNat, by omega, by omega, by omega⟩
  have BG := fun id W h => begin_any ka kb id m W h (by omega) (by omega)
  have B0 := (Blk.new w 36 #[.int .i64 ver, .slice A l.length c]).alloc (.cells #[.int .u64 ka, .int .u64 kb] 25)
  have K0 : Blk ((w.alloc (.cells #[.int .i64 ver, .slice A l.length c] 36)).alloc (.cells #[.int .u64 ka, .int .u64 kb] 25)) (w.heap.size + 1) 25 #[.int .u64 ka, .int .u64 kb] := by simpa using Blk.new (w.alloc (.cells #[.int .i64 ver, .slice A l.length c] 36)) 25 #[.int .u64 ka, .int .u64 kb]
  have e0 : ((l.length : Int) == 0) = false := by rw [beq_eq_false_iff_ne]; omega
  have e1 : decide (m < l.length) = false := by simp; omega
  have hm2 : m < 5000 := by omega
  have hm1 : 1 < m := by omega
  rw [htab]
  replace S := Lib.hid S
  replace BG := Lib.hid BG
  replace hok := Lib.hid hok
  replace hsk := Lib.hid hsk
  replace hwl := Lib.hid hwl
  replace hwk := Lib.hid hwk
  replace hidk := Lib.hid hidk
  replace hm := Lib.hid hm
  clear hs hws hws2 htab hid
  go_enter Try.func60, Try.ntmps60
  go_wp2_with fail
  go_step3
  go_wp2_with (go_at_call 98; with_reducible refine (S.out _).mono ?_; rintro e w1 ⟨rfl, hb1⟩; have B1 := B0.call hb1; have K1 := K0.call hb1; have hbA := below_chain hb1 (below_alloc (below_alloc (Below.refl w.heap.size w) (.cells #[.int .i64 ver, .slice A l.length c] 36)) (.cells #[.int .u64 ka, .int .u64 kb] 25)); have c1 := B1.cell 1; simp at c1; clear B0 K0)
  go_loopw [8, 32] (fun s i wr => ∃ (k : Nat) (P : Option Addr) (p : Nat), k ≤ l.length ∧ i = .int .i64 (k : Nat) ∧ s = .slice P k p ∧ OwnW wr w.heap.size P p (ws.take k) ∧ Blk wr (w.heap.size + 1) 25 #[.int .u64 ka, .int .u64 kb] ∧ ¬ InB P (w.heap.size + 1) ∧ Below w.heap.size w wr) (fun _ i _ => l.length - (intOf i).toNat)
  case atStart => exact ⟨0, none, 0, by omega, rfl, rfl, OwnA.nil _ _, K1, (fun h => by obtain ⟨a, ha, _⟩ := h; cases ha), hbA⟩
  case round =>
    obtain ⟨k, P, p, hk, rfl, rfl, hO, hK, hnP, hb⟩ := hrel
    by_cases hlt : k < l.length
    · have hlti : (k : Int) < (l.length : Int) := by omega
      obtain ⟨ad, b, rfl, hbl, hbk, c0, c1, c2, c3, c4, c5⟩ := bk_at (hr.below hb) hlt
      have hstep := hwk.out k b hbk
      obtain ⟨n, hn, hn1, hn2⟩ := hidk.out k b hbk
      have hol : (ws.take k).length = k := by rw [List.length_take, hwl.out]; omega
      have hzB := hb.size
      obtain ⟨bi, bw, bs, bv, bh, bo⟩ := b
      dsimp only at *
      subst hn
      have BB := BG.out n
      obtain ⟨y, hy⟩ : ∃ y, wayOf ka kb m (n : Int) = y := ⟨_, rfl⟩
      rw [hy] at BB hstep
      obtain ⟨y0, y1, y2⟩ := y
      unfold wayV at BB
      dsimp only at BB
      replace BB := Lib.hid BB
      replace hstep := Lib.hid hstep
      replace hy := Lib.hid hy
      replace hol := Lib.hid hol
      generalize ws.take k = L at *
      have k0 := hK.cell 0
      have k1 := hK.cell 1
      simp at k0 k1
      have hzK := hK.lt
      clear hbk hr hbA B1 K1
      go_wp2_with fail
      have hv : Below wr.heap.size wr (wr.alloc (.cells #[.int .i64 (n : Int), .int .i64 bw, .int .i64 bs, .bool bv, .int .u64 bh, .int .u64 bo] 47)) := below_alloc (Below.refl _ _) _
      have hb2 := below_chain hv hb
      have hO2 := hO.call hv
      have hK2 := hK.call hv
      refine (BB.out _ hn2).mono ?_
      rintro e w2 ⟨rfl, hb3⟩
      have hb4 := below_chain hb3 hb2
      have hO4 := hO2.call hb3
      have hK4 := hK2.call hb3
      have hz4 := hb4.size
      clear hv hb2 hO2 hK2 hb3 hb hO hK k0 k1 hzK c0 c1 c2 c3 c4 c5 hzB
      go_wp2_with (at_builtin; (refine wpList_push_way rfl (.tmp 36) (.tmp 42) rfl w.heap.size P p L (y0, y1, y2) k hol.out rfl hO4 _ (by simp) rfl rfl (by have := hol.out; omega) hz4 ?_; intro P1 p1 w3 ho1 hp1))
      have hK5 := (hK4.alloc (.cells #[.int .i64 y0, .int .i64 ((y1 : Nat) : Int), .int .i64 ((y2 : Nat) : Int)] 164))
      have hb5 := hp1.below hb4 (by omega) (fun b hb => (hO4.block hb).1)
      go_roundw
      case rel => exact ⟨k + 1, P1, p1, by omega, by go_num, rfl, by rw [hstep.out]; exact ho1, hK4.chg hp1.chg hnP, (fun hi => by rcases hp1.new _ hi with hi | hi; exact hnP hi; have := hK4.lt; omega), hb5⟩
      case measure => simp [intOf]; omega
    · obtain rfl : k = l.length := by omega
      have hlti : ¬ (l.length : Int) < (l.length : Int) := by omega
      have htk : ws.take l.length = ws := by rw [← hwl.out, List.take_length]
      rw [htk] at hO
      have hform := (show wr.ownsRow w.heap.size 164 3 (.slice P ws.length p) ws.length (ws.flatMap way0) from hO).form (by rw [hwl.out]; omega)
      obtain ⟨gw, cap, hfv, hgw, hgl⟩ := hform
      have hz0 := wcells_zero (ws := ws) (m := m) (fun x hx => (hok.out x hx).2.1)
      have hwn := hwl.out
      have hrow : WayRow wr w.heap.size gw ws.length cap (wcells ws m (mrun ws m 0).2) := by
        have h2 := (show wr.ownsRow w.heap.size 164 3 (.slice P ws.length p) ws.length (ws.flatMap way0) from hO)
        rw [hfv, hz0] at h2
        exact h2
      obtain ⟨rfl, rfl⟩ : P = some ⟨gw, 0, none⟩ ∧ p = cap := by
        simp only [Value.slice.injEq] at hfv
        exact ⟨hfv.1, hfv.2.2⟩
      replace hwn := Lib.hid hwn
      have hmk := run_make_row' (P := Try.prog) 66 3 (.int .i64 0) 8 Try.underlying66 info_int rfl .i64 .i64 m (by omega) (by omega)
      have k0 := hK.cell 0
      have k1 := hK.cell 1
      simp at k0 k1
      have hzK := hK.lt
      clear hO htk hz0 hfv hr hbA B1 K1
      go_wp2_with fail
      go_region
      go_wp2_with fail
      go_step3
      go_wp2_with fail
      have hP0 : PlAt ((wr.alloc (.cells (madeCells #[.int .i64 0] m) 3)).alloc (.cells #[.int .u64 ka, .int .u64 kb, .slice (some ⟨wr.heap.size, 0, none⟩) m m] 167)).drew wr.heap.size m (mrun ws m 0).1 := by
        refine (((World.rowIs_made wr (.int .i64 0) m 3).alloc _).drew).congr fun p hp => ?_
        show _ = Value.int .i64 ((List.replicate m 0).getD p 0)
        simp [List.getD_eq_getElem?_getD, hp]
      have hT0 : Blk ((wr.alloc (.cells (madeCells #[.int .i64 0] m) 3)).alloc (.cells #[.int .u64 ka, .int .u64 kb, .slice (some ⟨wr.heap.size, 0, none⟩) m m] 167)).drew (wr.heap.size + 1) 167 #[.int .u64 ka, .int .u64 kb, .slice (some ⟨wr.heap.size, 0, none⟩) m m] := by
        have := Blk.new (wr.alloc (.cells (madeCells #[.int .i64 0] m) 3)) 167 #[.int .u64 ka, .int .u64 kb, .slice (some ⟨wr.heap.size, 0, none⟩) m m]
        simp only [World.size_alloc] at this
        exact this
      have hW0 : WayRow ((wr.alloc (.cells (madeCells #[.int .i64 0] m) 3)).alloc (.cells #[.int .u64 ka, .int .u64 kb, .slice (some ⟨wr.heap.size, 0, none⟩) m m] 167)).drew w.heap.size gw ws.length p (wcells ws m (mrun ws m 0).2) := ownsRow_chg hrow ((((Chg.refl (fun _ => False) wr).alloc _).alloc _).drew) (fun _ _ h => h)
      have hM0 := MagSt.mk hW0 hP0 hT0
      have hbM : Below w.heap.size w ((wr.alloc (.cells (madeCells #[.int .i64 0] m) 3)).alloc (.cells #[.int .u64 ka, .int .u64 kb, .slice (some ⟨wr.heap.size, 0, none⟩) m m] 167)).drew := (below_alloc (below_alloc hb _) _).drew
      have hzw := hb.size
      clear hP0 hT0 hW0 hrow k0 k1 hzK hK hb hmk
      generalize ((wr.alloc (.cells (madeCells #[.int .i64 0] m) 3)).alloc (.cells #[.int .u64 ka, .int .u64 kb, .slice (some ⟨wr.heap.size, 0, none⟩) m m] 167)).drew = w3 at *
      generalize wr.heap.size = gp at *
      have hgt : w.heap.size ≤ gp + 1 := by omega
      have hgpw : w.heap.size ≤ gp := hzw
      generalize gp + 1 = gt at *
      go_loopg [12] m (fun g lf wx => ∃ t q : Nat, t + g = m ∧ t % ws.length = 0 ∧ lf = .int .i64 (q : Int) ∧ t + q = m ∧ MagSt wx w.heap.size gw p gp gt m ka kb ws t ∧ Below w.heap.size w wx)
      case atStart => exact ⟨0, m, by omega, by simp, rfl, by omega, hM0, hbM⟩
      case round =>
        obtain ⟨t, q, htg, htn, rfl, htq, hM, hb⟩ := hrel
        generalize wr = wo at *
        generalize gk = G at *
        clear hM0 hbM
        replace htn := Lib.hid htn
        go_wp2_with fail
        have hng : ws.length = l.length := hwn.out
        go_loopg [12, 53] l.length (fun g lf ix wx => ∃ i q : Nat, i + g = l.length ∧ ix = .int .i64 (i : Int) ∧ lf = .int .i64 (q : Int) ∧ t + i + q = m ∧ MagSt wx w.heap.size gw p gp gt m ka kb ws (t + i) ∧ Below w.heap.size w wx)
        case atStart => exact ⟨0, q, by omega, rfl, rfl, by omega, hM, hb⟩
        case round =>
          obtain ⟨i, q1, hig, rfl, rfl, hiq, hMi, hbi⟩ := hrel
          clear hM hb hng
          cases gk with
          | zero =>
            obtain rfl : i = l.length := by omega
            have hlti : ¬ (l.length : Int) < (l.length : Int) := by omega
            go_wp2_with fail
            go_roundg (G - l.length)
            case measure => omega
            case rel => exact ⟨t + l.length, q1, by omega, by rw [← hwn.out, Nat.add_mod_right]; exact htn.out, rfl, hiq, hMi, hbi⟩
          | succ g =>
            have hlti : (i : Int) < (l.length : Int) := by omega
            cases q1 with
            | zero =>
              go_wp2_with fail
              try rw [Exit.noGoto_ret]
              go_ret2
              have htm : t + i = m := by omega
              rw [htm] at hMi
              have hlen := (mrun_inv hok.out (by have := hwn.out; omega) m (Nat.le_refl m)).len
              exact ⟨gt, rfl, ⟨gp, by rw [hlen]; exact hMi.tab, by rw [hlen]; exact hMi.pl⟩, hgt, hbi⟩
            | succ q =>
              have hq0 : (((q + 1 : Nat) : Int) == 0) = false := by rw [beq_eq_false_iff_ne]; omega
              have hiw : i < ws.length := by have := hwn.out; omega
              have hti : (t + i) % ws.length = i := by rw [Nat.add_mod, htn.out, Nat.zero_add, Nat.mod_mod, Nat.mod_eq_of_lt hiw]
              have hS := mrun_inv hok.out (by omega) (t + i) (by omega)
              have hpl := turn_place hok.out hS (by omega) hiw
              have hlo := goJ_taken (mrun ws m (t + i)).1 (ws.getD i (0, 0, 0)).2.1 (ws.getD i (0, 0, 0)).2.2 m (m - (mrun ws m (t + i)).2.getD i 0) ((mrun ws m (t + i)).2.getD i 0)
              have hc0 := wcells_at (ws := ws) (m := m) (js := (mrun ws m (t + i)).2) hiw (show 0 < 3 by omega)
              have hc1 := wcells_at (ws := ws) (m := m) (js := (mrun ws m (t + i)).2) hiw (show 1 < 3 by omega)
              have hc2 := wcells_at (ws := ws) (m := m) (js := (mrun ws m (t + i)).2) hiw (show 2 < 3 by omega)
              have hturn := fun (w1 : World) (J : Nat) => hMi.turn (w1 := w1) (J := J) hok.out (by omega) hiw hti
              obtain ⟨n1, n2, n3⟩ := hMi.ne1
              have hok1 := (hok.out.at hiw)
              simp only at hpl
              generalize hJ : goJ (mrun ws m (t + i)).1 (ws.getD i (0, 0, 0)).2.1 (ws.getD i (0, 0, 0)).2.2 m (m - (mrun ws m (t + i)).2.getD i 0) ((mrun ws m (t + i)).2.getD i 0) = J at *
              obtain ⟨hJm, hJ0, hJf⟩ := hpl
              replace hturn := fun (w1 : World) => hturn w1 J rfl
              generalize (mrun ws m (t + i)).2.getD i 0 = j0 at *
              have hskx : (ws.getD i (0, 0, 0)).2.2 < m := hsk.out _ (by rw [List.getD_eq_getElem?_getD, List.getElem?_eq_getElem hiw]; exact List.getElem_mem hiw)
              obtain ⟨y, hy⟩ : ∃ y, ws.getD i (0, 0, 0) = y := ⟨_, rfl⟩
              rw [hy] at hJ hJf hlo hc0 hc1 hc2 hturn hok1 hskx
              obtain ⟨yi, ya, ys⟩ := y
              simp only [wcell, List.getElem?_cons_zero, List.getElem?_cons_succ, Nat.add_zero] at hJ hJf hlo hc0 hc1 hc2 hturn hok1 hskx
              have K : ∀ (W : World), W = wr.drew → Calls Try.prog 100 #[.pointer (some ⟨gw, i * 3, none⟩), .slice (some ⟨gp, 0, none⟩) m m] W fun e w' =>
                  e = .returned (.int .i64 ((wayN ya ys m J : Nat) : Int)) ∧ WayRow w' w.heap.size gw ws.length p ((wcells ws m (mrun ws m (t + i)).2).set (i * 3 + 1) (.int .i64 ((wayN ya ys m (J + 1) : Nat) : Int))) ∧ Chg (· = gw) wr w' := by
                rintro W rfl
                refine (way_take w.heap.size gw ws.length p i (wcells ws m (mrun ws m (t + i)).2) ya ys m j0 J gp (mrun ws m (t + i)).1 wr.drew hMi.way hiw hc1 hc2 hMi.pl (by omega) hm2 hskx hJ0 (fun j h1 h2 => hlo j h1 h2) hJf n1 _ rfl).mono ?_
                rintro e w' ⟨h1, h2, h3⟩
                exact ⟨h1, h2, h3.undrew⟩
              have F : ∀ w1 : World, WayRow w1 w.heap.size gw ws.length p ((wcells ws m (mrun ws m (t + i)).2).set (i * 3 + 1) (.int .i64 ((wayN ya ys m (J + 1) : Nat) : Int))) → Chg (· = gw) wr w1 →
                  w1.cell? ⟨gt, 2, none⟩ = some (.slice (some ⟨gp, 0, none⟩) m m) ∧ w1.cell? ⟨gw, i * 3, none⟩ = some (.int .i64 yi) ∧ w1.cell? ⟨gp, wayN ya ys m J, none⟩ = some (.int .i64 0) ∧ w1.frozen? ⟨gp, wayN ya ys m J, none⟩ = false := by
                intro w1 h1 h2
                have a1 := hMi.tab.chg h2 (fun e => n2 e.symm)
                have a2 := rowIs_chg hMi.pl h2 (fun e => n1 e.symm)
                have a3 := h1.cellAt (i * 3) (by omega)
                rw [List.getElem?_set_ne (by omega), hc0] at a3
                have a4 := a2.cell (wayN_lt ya ys J (show 0 < m by omega))
                rw [hJf] at a4
                exact ⟨a1.cell 2, a3, a4, a2.frozen _⟩
              have s2 : wr.cell? ⟨gt, 2, none⟩ = some (.slice (some ⟨gp, 0, none⟩) m m) := hMi.tab.cell 2
              have s0 : wr.cell? ⟨gw, i * 3, none⟩ = some (.int .i64 yi) := by
                have a3 := hMi.way.cellAt (i * 3) (by omega)
                rwa [hc0] at a3
              have hxm := wayN_lt ya ys J (show 0 < m by omega)
              generalize wayN ya ys m J = x at *
              have hxi : (x : Int) < (m : Int) := by omega
              replace K := Lib.hid K
              replace F := Lib.hid F
              replace hturn := Lib.hid hturn
              replace hJ := Lib.hid hJ
              replace hok1 := Lib.hid hok1
              replace hti := Lib.hid hti
              replace hy := Lib.hid hy
              replace hlo := Lib.hid hlo
              clear hc0 hc1 hc2 hJf hS
              go_wp2_with fail
              go_region_with (go_at_call 100; (with_reducible refine (K.out _ rfl).mono ?_); rintro e w4 ⟨rfl, hrow4, hch4⟩; clear s0 s2; obtain ⟨s2, s0, s3, q3⟩ := F.out w4 hrow4 hch4)
              all_goals
                have hfin := hturn.out w4 hrow4 hch4
                have hbf : Below w.heap.size w (w4.setCell ⟨gp, x, none⟩ (.int .i64 yi)) := (below_chg hbi hch4 (fun b hb e => by omega) hbi.size).setCell hgpw _
                clear s0 s2 s3 q3 hrow4 hch4
                go_wp2_with fail
                go_roundg g
                case measure => omega
                case rel => exact ⟨i + 1, q, by omega, by go_num, by go_num, by omega, hfin, hbf⟩
end Go.Proofs.Ytkpkjpdhlmjchaa
