/- maglev's reference: hash, Way. maglev's reference: New. maglev's reference: New, where there is a table. -/
import Derived.Test.YtkpkjpdhlmjchaaMagF
namespace Go.Proofs.Ytkpkjpdhlmjchaa
open Go Go.RowKit Go.Deep

set_option maxHeartbeats 2000000 in
theorem refmhash_any (ka kb : Int) (c id : Nat) (w : World) (hc : c < 3) (hid : id < 65536) :
    Calls Try.prog 130 #[.agg #[.int .u64 ka, .int .u64 kb], .int .u64 (c : Int), .int .i64 (id : Int)] w fun e w' => e = .returned (.int .u64 ((mhash ka kb c id : Nat) : Int)) ∧ Below w.heap.size w w' := by
  have hx : (⟨(octB c 1).toArray⟩ : ByteArray) ++ ⟨(octB id 2).toArray⟩ = ⟨(octB (c * 65536 + id) 3).toArray⟩ := by
    have := octB_12 c id
    rw [Nat.mod_eq_of_lt hid] at this
    rw [this, ← str_append]
  have S := fun W => refhash_any ka kb ⟨(octB (c * 65536 + id) 3).toArray⟩ W (by simp [octB, ByteArray.size])
  obtain ⟨h, hh, hlt⟩ := sip_rng ka kb ⟨(octB (c * 65536 + id) 3).toArray⟩
  have H : mhash ka kb c id = h := by unfold mhash; rw [hh]; simp
  rw [H]
  rw [hh] at S
  rw [← hx] at S
  have O1 := fun W => refoct_put c 1 W (by omega) (by omega)
  have O2 := fun W => refoct_put id 2 W (by omega) (by omega)
  rw [show ((1 : Nat) : Int) = 1 from rfl] at O1
  rw [show ((2 : Nat) : Int) = 2 from rfl] at O2
  have e1 : IntKind.u64.wrap (id : Int) = (id : Int) := u64_id _ (by omega)
  have hal : ¬ 9223372036854775807 < (octB c 1).length + (octB id 2).length := by rw [octB_len, octB_len]; omega
  obtain ⟨w0, hw0⟩ : ∃ w0, w0 = w.alloc (.cells #[.int .u64 ka, .int .u64 kb] 25) := ⟨_, rfl⟩
  have hb0 : Below w.heap.size w w0 := hw0 ▸ (by repeat (first | exact Below.refl _ _ | assumption | refine below_alloc ?_ _ | refine below_chain (by assumption) ?_ | refine below_call2 (by assumption) ?_ (by first | omega | (simp; done) | (simp; omega) | (simp [World.setCell]; omega)) | refine below_drewN ?_ _ | refine Below.drew ?_ | refine Below.alloc ?_ (by first | omega | (simp; done) | (simp; omega) | (simp [World.setCell]; omega)) _ | refine Below.setCell ?_ (by first | omega | (simp; done) | (simp; omega) | (simp [World.setCell]; omega)) _))
  have B1 : Blk w0 w.heap.size 25 #[.int .u64 ka, .int .u64 kb] := hw0 ▸ Blk.new w _ _
  have k0 := B1.cell 0
  have k1 := B1.cell 1
  simp at k0 k1
  replace S := Lib.hid S
  replace O1 := Lib.hid O1
  replace O2 := Lib.hid O2
  clear hx hh H
  go_enter Try.func130, Try.ntmps130
  go_wp2_with fail
  rw [← hw0]
  clear hw0
  go_region_held3 (fun w' => Below w0.heap.size w0 w' ∧ w'.cell? ⟨w.heap.size, 0, none⟩ = some (.int .u64 ka) ∧ w'.cell? ⟨w.heap.size, 1, none⟩ = some (.int .u64 kb)) ((first | assumption | ((refine ⟨?_, ?_⟩; (first | assumption | exact (Below.refl _ _).drew | exact Below.refl _ _); go_keep)))) (first
    | (go_at_call 151; (with_reducible refine (O1.out _).mono ?_); rintro e w2 ⟨rfl, hb2⟩; have hS := hold2 (by assumption) hb2)
    | (go_at_call 151; (with_reducible refine (O2.out _).mono ?_); rintro e w2 ⟨rfl, hb2⟩; have hS := hold2 (by assumption) hb2)
    | (go_at_call 121; (with_reducible refine (S.out _).mono ?_); rintro e w2 ⟨rfl, hb2⟩; have hS := hold2 (by assumption) hb2))
  all_goals
    go_wp2_with fail
    go_ret
    exact ⟨rfl, below_chain hS.1 hb0⟩

set_option maxHeartbeats 4000000 in
theorem refway_any (ka kb : Int) (id m j : Nat) (w : World) (hid : id < 65536) (hm : 1 < m) (hm2 : m < 5000) (hj : j < 5000) :
    Calls Try.prog 103 #[.agg #[.int .u64 ka, .int .u64 kb], .int .i64 (id : Int), .int .i64 (m : Int), .int .i64 (j : Int)] w fun e w' => e = .returned (.int .i64 ((wayN (wayOf ka kb m (id : Int)).2.1 (wayOf ka kb m (id : Int)).2.2 m j : Nat) : Int)) ∧ Below w.heap.size w w' := by
  have H1 := fun W => refmhash_any ka kb 1 id W (by omega) hid
  have H2 := fun W => refmhash_any ka kb 2 id W (by omega) hid
  rw [show ((1 : Nat) : Int) = 1 from rfl] at H1
  rw [show ((2 : Nat) : Int) = 2 from rfl] at H2
  have hv : wayOf ka kb m (id : Int) = ((id : Int), mhash ka kb 1 id % m, mhash ka kb 2 id % (m - 1) + 1) := by unfold wayOf; simp only [Int.toNat_natCast]
  rw [hv]
  simp only
  generalize mhash ka kb 1 id = x at *
  generalize mhash ka kb 2 id = y at *
  obtain ⟨p, hp⟩ : ∃ p, x % m = p := ⟨_, rfl⟩
  obtain ⟨q, hq⟩ : ∃ q, y % (m - 1) = q := ⟨_, rfl⟩
  rw [hp, hq]
  have hp1 : p < m := hp ▸ Nat.mod_lt _ (by omega)
  have hq1 : q < m - 1 := hq ▸ Nat.mod_lt _ (by omega)
  have t1 : (x : Int).tmod (m : Int) = (p : Int) := by rw [Int.tmod_eq_emod_of_nonneg (by omega), ← hp]; rfl
  have t2 : (y : Int).tmod ((m : Int) - 1) = (q : Int) := by rw [Int.tmod_eq_emod_of_nonneg (by omega), show (m : Int) - 1 = ((m - 1 : Nat) : Int) by omega, ← hq]; rfl
  have e1 : IntKind.u64.wrap (m : Int) = (m : Int) := u64_id _ (by omega)
  have e2 : IntKind.i64.wrap ((m : Int) - 1) = (m : Int) - 1 := IntWalk.i64_in _ (by omega)
  have e3 : IntKind.u64.wrap ((m : Int) - 1) = (m : Int) - 1 := by
    have := u64_id (m - 1) (by omega)
    rwa [show ((m - 1 : Nat) : Int) = (m : Int) - 1 by omega] at this
  have e4 : IntKind.u64.wrap ((q : Int) + 1) = (q : Int) + 1 := u64_id (q + 1) (by omega)
  have e5 : IntKind.u64.wrap (j : Int) = (j : Int) := u64_id _ (by omega)
  have hjq : j * (q + 1) ≤ 5000 * 5000 := Nat.mul_le_mul (by omega) (by omega)
  have e6 : IntKind.u64.wrap ((j : Int) * ((q : Int) + 1)) = (j : Int) * ((q : Int) + 1) := u64_id (j * (q + 1)) (by omega)
  have e7 : IntKind.u64.wrap ((p : Int) + (j : Int) * ((q : Int) + 1)) = (p : Int) + (j : Int) * ((q : Int) + 1) := u64_id (p + j * (q + 1)) (by omega)
  have e8 : ((p : Int) + (j : Int) * ((q : Int) + 1)).tmod (m : Int) = ((wayN p (q + 1) m j : Nat) : Int) := by
    have : (p : Int) + (j : Int) * ((q : Int) + 1) = ((p + j * (q + 1) : Nat) : Int) := by rw [Int.natCast_add, Int.natCast_mul, Int.natCast_add]; rfl
    rw [Int.tmod_eq_emod_of_nonneg (by omega), this]; rfl
  have hwn := wayN_lt p (q + 1) j (show 0 < m by omega)
  generalize wayN p (q + 1) m j = r at *
  have e9 : IntKind.i64.wrap (r : Int) = (r : Int) := IntWalk.i64_in _ (by omega)
  have n1 : ¬ m = 0 := by omega
  have n2 : ¬ (m : Int) - 1 = 0 := by omega
  obtain ⟨w0, hw0⟩ : ∃ w0, w0 = w.alloc (.cells #[.int .u64 ka, .int .u64 kb] 25) := ⟨_, rfl⟩
  have hb0 : Below w.heap.size w w0 := hw0 ▸ (by repeat (first | exact Below.refl _ _ | assumption | refine below_alloc ?_ _ | refine below_chain (by assumption) ?_ | refine below_call2 (by assumption) ?_ (by first | omega | (simp; done) | (simp; omega) | (simp [World.setCell]; omega)) | refine below_drewN ?_ _ | refine Below.drew ?_ | refine Below.alloc ?_ (by first | omega | (simp; done) | (simp; omega) | (simp [World.setCell]; omega)) _ | refine Below.setCell ?_ (by first | omega | (simp; done) | (simp; omega) | (simp [World.setCell]; omega)) _))
  have B1 : Blk w0 w.heap.size 25 #[.int .u64 ka, .int .u64 kb] := hw0 ▸ Blk.new w _ _
  have k0 := B1.cell 0
  have k1 := B1.cell 1
  simp at k0 k1
  replace H1 := Lib.hid H1
  replace H2 := Lib.hid H2
  clear hv hp hq hjq
  go_enter Try.func103, Try.ntmps103
  go_wp2_with fail
  rw [← hw0]
  clear hw0
  go_region_held3 (fun w' => Below w0.heap.size w0 w' ∧ w'.cell? ⟨w.heap.size, 0, none⟩ = some (.int .u64 ka) ∧ w'.cell? ⟨w.heap.size, 1, none⟩ = some (.int .u64 kb)) ((first | assumption | ((refine ⟨?_, ?_⟩; (first | assumption | exact (Below.refl _ _).drew | exact Below.refl _ _); go_keep)))) (first
    | (go_at_call 130; (with_reducible refine (H1.out _).mono ?_); rintro e w2 ⟨rfl, hb2⟩; have hS := hold2 (by assumption) hb2)
    | (go_at_call 130; (with_reducible refine (H2.out _).mono ?_); rintro e w2 ⟨rfl, hb2⟩; have hS := hold2 (by assumption) hb2))
  all_goals
    go_wp2_with fail
    go_ret
    exact ⟨rfl, below_chain hS.1 hb0⟩
end Go.Proofs.Ytkpkjpdhlmjchaa

namespace Go.Proofs.Ytkpkjpdhlmjchaa
open Go Go.RowKit Go.Deep

theorem info_bool : (Try.prog.info? 4).map (fun i => (i.zero, i.size, i.bytes)) = some (some (.bool false), 1, 1) := by kernel_rfl
set_option maxHeartbeats 2000000 in
theorem refnew_none (l : List Bk) (A : Option Addr) (c : Nat) (ka kb m : Int) (w : World) (he : newE m l.length ≠ 0) :
    Calls Try.prog 63 #[.slice A l.length c, .agg #[.int .u64 ka, .int .u64 kb], .int .i64 m] w fun e w' => e = .returned (.tuple #[.slice none 0 0, .int .i64 (newE m l.length)]) ∧ Below w.heap.size w w' := by
  have S := refsize_any m
  unfold newE at he ⊢
  obtain ⟨o, ho⟩ : ∃ o, sizedB m = o := ⟨_, rfl⟩
  rw [ho] at he S ⊢
  replace S := Lib.hid S
  clear ho
  cases o
  · clear he
    go_enter Try.func63, Try.ntmps63
    go_wp2_with (go_at_call 11; with_reducible refine (S.out _).mono ?_; rintro e w1 ⟨rfl, rfl⟩)
    go_ret2
    exact ⟨rfl, (by repeat (first | exact Below.refl _ _ | assumption | refine below_alloc ?_ _ | refine below_chain (by assumption) ?_ | refine below_call2 (by assumption) ?_ (by first | omega | (simp; done) | (simp; omega) | (simp [World.setCell]; omega)) | refine below_drewN ?_ _ | refine Below.drew ?_ | refine Below.alloc ?_ (by first | omega | (simp; done) | (simp; omega) | (simp [World.setCell]; omega)) _ | refine Below.setCell ?_ (by first | omega | (simp; done) | (simp; omega) | (simp [World.setCell]; omega)) _))⟩
  · rw [if_pos rfl] at he ⊢
    by_cases h0 : l.length = 0
    · rw [if_pos h0]
      have e0 : ((l.length : Int) == 0) = true := by rw [h0]; rfl
      replace h0 := Lib.hid h0
      clear he
      go_enter Try.func63, Try.ntmps63
      go_wp2_with (go_at_call 11; with_reducible refine (S.out _).mono ?_; rintro e w1 ⟨rfl, rfl⟩)
      go_ret2
      exact ⟨rfl, (by repeat (first | exact Below.refl _ _ | assumption | refine below_alloc ?_ _ | refine below_chain (by assumption) ?_ | refine below_call2 (by assumption) ?_ (by first | omega | (simp; done) | (simp; omega) | (simp [World.setCell]; omega)) | refine below_drewN ?_ _ | refine Below.drew ?_ | refine Below.alloc ?_ (by first | omega | (simp; done) | (simp; omega) | (simp [World.setCell]; omega)) _ | refine Below.setCell ?_ (by first | omega | (simp; done) | (simp; omega) | (simp [World.setCell]; omega)) _))⟩
    · rw [if_neg h0] at he ⊢
      have hm : m < l.length := by
        rcases Int.lt_or_le m l.length with h | h
        · exact h
        · rw [if_neg (by omega)] at he; exact absurd rfl he
      rw [if_pos hm]
      have e0 : ((l.length : Int) == 0) = false := by rw [beq_eq_false_iff_ne]; omega
      have e1 : decide (m < (l.length : Int)) = true := by simpa using hm
      clear he h0 hm
      go_enter Try.func63, Try.ntmps63
      go_wp2_with (go_at_call 11; with_reducible refine (S.out _).mono ?_; rintro e w1 ⟨rfl, rfl⟩)
      go_ret2
      exact ⟨rfl, (by repeat (first | exact Below.refl _ _ | assumption | refine below_alloc ?_ _ | refine below_chain (by assumption) ?_ | refine below_call2 (by assumption) ?_ (by first | omega | (simp; done) | (simp; omega) | (simp [World.setCell]; omega)) | refine below_drewN ?_ _ | refine Below.drew ?_ | refine Below.alloc ?_ (by first | omega | (simp; done) | (simp; omega) | (simp [World.setCell]; omega)) _ | refine Below.setCell ?_ (by first | omega | (simp; done) | (simp; omega) | (simp [World.setCell]; omega)) _))⟩

/-- The document's table while it is filled. -/
structure RefSt (w : World) (gp gk ga m n : Nat) (S : List Int × List Nat) : Prop where
  pl : PlAt w gp m S.1
  tk : w.rowIs gk 4 m (fun p => .bool (decide (S.1.getD p 0 ≠ 0)))
  js : w.rowIs ga 3 n (fun i => .int .i64 ((S.2.getD i 0 : Nat) : Int))
theorem RefSt.keep {w w' : World} {gp gk ga m n : Nat} {S : List Int × List Nat} (h : RefSt w gp gk ga m n S) (hb : Below w.heap.size w w') : RefSt w' gp gk ga m n S :=
  ⟨h.pl.of_block (hb.block gp h.pl.lt), h.tk.of_block (hb.block gk h.tk.lt), h.js.of_block (hb.block ga h.js.lt)⟩
theorem getD_set_ifN (l : List Nat) (x p : Nat) (v : Nat) (hx : x < l.length) : (l.set x v).getD p 0 = if p = x then v else l.getD p 0 := by
  by_cases e : p = x
  · subst e; simp [List.getD_eq_getElem?_getD, hx]
  · rw [if_neg e]; simp [List.getD_eq_getElem?_getD, List.getElem?_set_ne (fun h => e h.symm)]
theorem RefSt.turn {w : World} {gp gk ga m n x i J : Nat} {id : Int} {S : List Int × List Nat} (h : RefSt w gp gk ga m n S) (h1 : S.1.length = m) (h2 : S.2.length = n) (hx : x < m) (hi : i < n) (hid : id ≠ 0) (n1 : gp ≠ gk) (n2 : gp ≠ ga) (n3 : gk ≠ ga) :
    RefSt (((w.setCell ⟨gk, x, none⟩ (.bool true)).setCell ⟨gp, x, none⟩ (.int .i64 id)).setCell ⟨ga, i, none⟩ (.int .i64 ((J : Int) + 1))) gp gk ga m n (S.1.set x id, S.2.set i (J + 1)) := by
  refine ⟨?_, ?_, ?_⟩
  · refine (((h.pl.setOther (a := ⟨gk, x, none⟩) n1 _).set x (.int .i64 id)).setOther (a := ⟨ga, i, none⟩) n2 _).congr fun p _ => ?_
    rw [getD_set_if _ _ _ _ (by omega)]
    split <;> rfl
  · refine (((h.tk.set x (.bool true)).setOther (a := ⟨gp, x, none⟩) (fun e => n1 e.symm) _).setOther (a := ⟨ga, i, none⟩) n3 _).congr fun p _ => ?_
    rw [getD_set_if _ _ _ _ (by omega)]
    split
    · simp [hid]
    · rfl
  · refine (((h.js.setOther (a := ⟨gk, x, none⟩) (fun e => n3 e.symm) _).setOther (a := ⟨gp, x, none⟩) (fun e => n2 e.symm) _).set i _).congr fun p _ => ?_
    rw [getD_set_ifN _ _ _ _ (by omega)]
    split
    · rfl
    · rfl
end Go.Proofs.Ytkpkjpdhlmjchaa

namespace Go.Proofs.Ytkpkjpdhlmjchaa
open Go Go.RowKit Go.Deep

set_option maxRecDepth 100000 in
set_option maxHeartbeats 16000000 in
theorem refnew_some (l : List Bk) (A : Option Addr) (c : Nat) (ka kb : Int) (m : Nat) (w : World) (hr : Reads w w.heap.size 6 A l.length (l.flatMap Bk.cells)) (hm : m = 13 ∨ m = 251) (h0 : 0 < l.length) (hlm : l.length ≤ m) (hid : ∀ b ∈ l, 1 ≤ b.id ∧ b.id ≤ 65535) :
    Calls Try.prog 63 #[.slice A l.length c, .agg #[.int .u64 ka, .int .u64 kb], .int .i64 (m : Int)] w fun e w' => ∃ gp, e = .returned (.tuple #[.slice (some ⟨gp, 0, none⟩) m m, .int .i64 0]) ∧ PlAt w' gp m (tableOf ka kb m (l.map Bk.id)) ∧ w.heap.size ≤ gp ∧ Below w.heap.size w w' := by
  have hs : sizedB (m : Int) = true := by rcases hm with rfl | rfl <;> rfl
  have S := refsize_any (m : Int)
  rw [hs] at S
  obtain ⟨ws, hws⟩ : ∃ ws, l.map (fun b => wayOf ka kb m b.id) = ws := ⟨_, rfl⟩
  have hws2 : (l.map Bk.id).map (wayOf ka kb m) = ws := by rw [List.map_map]; exact hws
  have hwl : ws.length = l.length := by rw [← hws, List.length_map]
  have hok : WaysOk ws m := hws2 ▸ wayOf_ok hm (fun i hi => by obtain ⟨b, hb, rfl⟩ := List.mem_map.1 hi; have := hid b hb; omega)
  have htab : tableOf ka kb m (l.map Bk.id) = (mrun ws m m).1 := by unfold tableOf; rw [hws2]
  have hwk : ∀ (k : Nat) (b : Bk), l[k]? = some b → ws.getD k (0, 0, 0) = wayOf ka kb m b.id := by
    intro k b hb
    rw [← hws, List.getD_eq_getElem?_getD, List.getElem?_map, hb]; rfl
  have hidk : ∀ (k : Nat) (b : Bk), l[k]? = some b → ∃ n : Nat, b.id = n ∧ 1 ≤ n ∧ n < 65536 := by
    intro k b hb
    have := hid b (List.mem_of_getElem? hb)
    exact ⟨b.id.toNat, by omega, by omega, by omega⟩
  have WY := fun id j W h1 h2 => refway_any ka kb id m j W h1 (by omega) (by omega) h2
  have K0 : Blk (w.alloc (.cells #[.int .u64 ka, .int .u64 kb] 25)) w.heap.size 25 #[.int .u64 ka, .int .u64 kb] := Blk.new w _ _
  have e0 : ((l.length : Int) == 0) = false := by rw [beq_eq_false_iff_ne]; omega
  have e1 : decide (m < l.length) = false := by simp; omega
  have hm2 : m < 5000 := by omega
  have hm1 : 1 < m := by omega
  have hmk1 := run_make_row' (P := Try.prog) 66 3 (.int .i64 0) 8 Try.underlying66 info_int rfl .i64 .i64 m (by omega) (by omega)
  have hmk2 := run_make_row' (P := Try.prog) 170 4 (.bool false) 1 Try.underlying170 info_bool rfl .i64 .i64 m (by omega) (by omega)
  have hmk3 := run_make_row' (P := Try.prog) 66 3 (.int .i64 0) 8 Try.underlying66 info_int rfl .i64 .i64 l.length (by omega) (by omega)
  rw [htab]
  replace S := Lib.hid S
  replace WY := Lib.hid WY
  replace hok := Lib.hid hok
  replace hwl := Lib.hid hwl
  replace hwk := Lib.hid hwk
  replace hidk := Lib.hid hidk
  replace hm := Lib.hid hm
  clear hs hws hws2 htab hid
  go_enter Try.func63, Try.ntmps63
  go_wp2_with (go_at_call 11; with_reducible refine (S.out _).mono ?_; rintro e w1 ⟨rfl, rfl⟩)
  have hP1 : Below w.heap.size w ((((w.alloc (.cells #[.int .u64 ka, .int .u64 kb] 25)).alloc (.cells (madeCells #[.int .i64 0] m) 3)).alloc (.cells (madeCells #[.bool false] m) 4)).alloc (.cells (madeCells #[.int .i64 0] l.length) 3)) := below_alloc (below_alloc (below_alloc (below_alloc (Below.refl _ _) _) _) _) _
  have hK1 : Blk ((((w.alloc (.cells #[.int .u64 ka, .int .u64 kb] 25)).alloc (.cells (madeCells #[.int .i64 0] m) 3)).alloc (.cells (madeCells #[.bool false] m) 4)).alloc (.cells (madeCells #[.int .i64 0] l.length) 3)) w.heap.size 25 #[.int .u64 ka, .int .u64 kb] := ((K0.alloc _).alloc _).alloc _
  have hR1 : RefSt ((((w.alloc (.cells #[.int .u64 ka, .int .u64 kb] 25)).alloc (.cells (madeCells #[.int .i64 0] m) 3)).alloc (.cells (madeCells #[.bool false] m) 4)).alloc (.cells (madeCells #[.int .i64 0] l.length) 3)) (w.heap.size + 1) (w.heap.size + 1 + 1) (w.heap.size + 1 + 1 + 1) m l.length (mrun ws m 0) := by
    refine ⟨?_, ?_, ?_⟩
    · have := World.rowIs_made (w.alloc (.cells #[.int .u64 ka, .int .u64 kb] 25)) (.int .i64 0) m 3
      simp only [World.size_alloc] at this
      refine ((this.alloc _).alloc _).congr fun p hp => ?_
      show _ = Value.int .i64 ((List.replicate m 0).getD p 0)
      simp [List.getD_eq_getElem?_getD, hp]
    · have := World.rowIs_made ((w.alloc (.cells #[.int .u64 ka, .int .u64 kb] 25)).alloc (.cells (madeCells #[.int .i64 0] m) 3)) (.bool false) m 4
      simp only [World.size_alloc] at this
      refine (this.alloc _).congr fun p hp => ?_
      show _ = Value.bool (decide ((List.replicate m (0 : Int)).getD p 0 ≠ 0))
      simp [List.getD_eq_getElem?_getD, hp]
    · have := World.rowIs_made (((w.alloc (.cells #[.int .u64 ka, .int .u64 kb] 25)).alloc (.cells (madeCells #[.int .i64 0] m) 3)).alloc (.cells (madeCells #[.bool false] m) 4)) (.int .i64 0) l.length 3
      simp only [World.size_alloc] at this
      refine this.congr fun p hp => ?_
      show _ = Value.int .i64 (((List.replicate ws.length 0).getD p 0 : Nat) : Int)
      rw [hwl.out]
      simp [List.getD_eq_getElem?_getD, hp]
  clear hmk1 hmk2 hmk3 K0
  generalize ((((w.alloc (.cells #[.int .u64 ka, .int .u64 kb] 25)).alloc (.cells (madeCells #[.int .i64 0] m) 3)).alloc (.cells (madeCells #[.bool false] m) 4)).alloc (.cells (madeCells #[.int .i64 0] l.length) 3)) = w3 at *
  have g1 : w.heap.size ≤ w.heap.size + 1 := by omega
  have g2 : w.heap.size ≤ w.heap.size + 1 + 1 := by omega
  have g3 : w.heap.size ≤ w.heap.size + 1 + 1 + 1 := by omega
  have n1 : w.heap.size + 1 ≠ w.heap.size + 1 + 1 := by omega
  have n2 : w.heap.size + 1 ≠ w.heap.size + 1 + 1 + 1 := by omega
  have n3 : w.heap.size + 1 + 1 ≠ w.heap.size + 1 + 1 + 1 := by omega
  have n4 : w.heap.size ≠ w.heap.size + 1 := by omega
  have n5 : w.heap.size ≠ w.heap.size + 1 + 1 := by omega
  have n6 : w.heap.size ≠ w.heap.size + 1 + 1 + 1 := by omega
  generalize w.heap.size + 1 + 1 + 1 = ga at *
  generalize w.heap.size + 1 + 1 = gk' at *
  generalize w.heap.size + 1 = gp at *
  go_loopg [11] m (fun g lf wx => ∃ t q : Nat, t + g = m ∧ (t = m ∨ t % ws.length = 0) ∧ lf = .int .i64 (q : Int) ∧ t + q = m ∧ RefSt wx gp gk' ga m l.length (mrun ws m t) ∧ Blk wx w.heap.size 25 #[.int .u64 ka, .int .u64 kb] ∧ Below w.heap.size w wx)
  case atStart => exact ⟨0, m, by omega, .inr (by simp), rfl, by omega, hR1, hK1, hP1⟩
  case round =>
    obtain ⟨t, q, htg, htn, rfl, htq, hR, hK, hb⟩ := hrel
    clear hR1 hK1 hP1
    generalize wr = wo at *
    generalize gk = G at *
    replace htn := Lib.hid htn
    cases q with
    | zero =>
      obtain rfl : t = m := by omega
      go_wp2_with fail
      go_ret2
      exact ⟨gp, rfl, hR.pl, g1, hb⟩
    | succ q =>
      have hqp : (0 : Int) < ((q + 1 : Nat) : Int) := by omega
      have htn0 : t % ws.length = 0 := by
        rcases htn.out with h | h
        · omega
        · exact h
      replace htn0 := Lib.hid htn0
      clear htn
      go_wp2_with fail
      go_loopg [11, 12] l.length (fun g lf ix wx => ∃ i q : Nat, i + g = l.length ∧ ix = .int .i64 (i : Int) ∧ lf = .int .i64 (q : Int) ∧ t + i + q = m ∧ RefSt wx gp gk' ga m l.length (mrun ws m (t + i)) ∧ Blk wx w.heap.size 25 #[.int .u64 ka, .int .u64 kb] ∧ Below w.heap.size w wx)
      case atStart => exact ⟨0, q + 1, by omega, rfl, rfl, by omega, hR, hK, hb⟩
      case round =>
        obtain ⟨i, q1, hig, rfl, rfl, hiq, hRi, hKi, hbi⟩ := hrel
        clear hR hK hb
        cases gk with
        | zero =>
          obtain rfl : i = l.length := by omega
          have hlti : ¬ (l.length : Int) < (l.length : Int) := by omega
          go_wp2_with fail
          go_roundg (G - l.length)
          case measure => omega
          case rel => exact ⟨t + l.length, q1, by omega, .inr (by rw [← hwl.out, Nat.add_mod_right]; exact htn0.out), rfl, hiq, hRi, hKi, hbi⟩
        | succ g =>
          have hlti : (i : Int) < (l.length : Int) := by omega
          cases q1 with
          | zero =>
            go_wp2_with fail
            go_roundg (G - i)
            case measure => omega
            case rel => exact ⟨t + i, 0, by omega, .inl (by omega), rfl, hiq, hRi, hKi, hbi⟩
          | succ q2 =>
            have hq2p : (0 : Int) < ((q2 + 1 : Nat) : Int) := by omega
            have hiw : i < ws.length := by have := hwl.out; omega
            have hti : (t + i) % ws.length = i := by rw [Nat.add_mod, htn0.out, Nat.zero_add, Nat.mod_mod, Nat.mod_eq_of_lt hiw]
            have hS := mrun_inv hok.out (by omega) (t + i) (by omega)
            have hpl := turn_place hok.out hS (by omega) hiw
            have hlo := goJ_taken (mrun ws m (t + i)).1 (ws.getD i (0, 0, 0)).2.1 (ws.getD i (0, 0, 0)).2.2 m (m - (mrun ws m (t + i)).2.getD i 0) ((mrun ws m (t + i)).2.getD i 0)
            have hstep : mrun ws m (t + i + 1) = turnM ws m (mrun ws m (t + i)) i := by show turnM ws m (mrun ws m (t + i)) ((t + i) % ws.length) = _; rw [hti]
            unfold turnM at hstep
            have hok1 := (hok.out.at hiw).1
            have hjc := hRi.js.cell (i := i) (by omega)
            simp only at hpl hstep
            generalize hJ : goJ (mrun ws m (t + i)).1 (ws.getD i (0, 0, 0)).2.1 (ws.getD i (0, 0, 0)).2.2 m (m - (mrun ws m (t + i)).2.getD i 0) ((mrun ws m (t + i)).2.getD i 0) = J at *
            clear hJ
            obtain ⟨hJm, hJ0, hJf⟩ := hpl
            obtain ⟨ad, b, rfl, hbl, hbk, c0, -⟩ := bk_at (hr.below hbi) (show i < l.length by omega)
            obtain ⟨n, hn, hn1, hn2⟩ := hidk.out i b hbk
            have hy := hwk.out i b hbk
            rw [hn] at hy c0
            have WJ := fun j W h => WY.out n j W hn2 h
            have hid1 : (wayOf ka kb m (n : Int)).1 = (n : Int) := rfl
            rw [← hy] at WJ hid1
            obtain ⟨y, hyy⟩ : ∃ y, ws.getD i (0, 0, 0) = y := ⟨_, rfl⟩
            rw [hyy] at WJ hlo hstep hJf hid1 hok1
            obtain ⟨yi, ya, ys⟩ := y
            simp only at WJ hlo hstep hJf hid1 hok1
            subst hid1
            generalize (mrun ws m (t + i)).2.getD i 0 = j0 at *
            replace WJ := Lib.hid WJ
            replace hlo := Lib.hid hlo
            replace hstep := Lib.hid hstep
            replace hJf := Lib.hid hJf
            replace hti := Lib.hid hti
            replace hS := Lib.hid hS
            clear hn hy hyy hbk
            have hfar1 : (ad.add (i * 6)).block ≠ gk' := by rw [block_of_add]; omega
            have hfar2 : (ad.add (i * 6)).block ≠ gp := by rw [block_of_add]; omega
            go_wp2_with fail
            generalize wr = wq at *
            go_loopg [13] (J - j0) (fun g jx wx => ∃ j, j0 ≤ j ∧ j + g = J ∧ jx = .int .i64 (j : Int) ∧ Below wq.heap.size wq wx)
            case atStart => exact ⟨j0, by omega, by omega, rfl, Below.refl _ _⟩
            case round =>
              obtain ⟨j, hj0, hjg, rfl, hbx⟩ := hrel
              have WX := WJ.out j
              have hxm := wayN_lt ya ys j (show 0 < m by omega)
              have hRx := hRi.keep hbx
              have hKx := hKi.call hbx
              have k0 := hKx.cell 0
              have k1 := hKx.cell 1
              simp at k0 k1
              have d0 := (hbx.cell (block_lt_of_cell c0)).trans c0
              have d1 := hRx.tk.cell hxm
              have hjm : (j : Int) < (m : Int) := by omega
              cases gk with
              | zero =>
                obtain rfl : j = J := by omega
                have hf : decide ((mrun ws m (t + i)).1.getD (wayN ya ys m j) 0 ≠ 0) = false := by rw [hJf.out]; rfl
                rw [hf] at d1
                generalize wayN ya ys m j = x at *
                have hxi : (x : Int) < (m : Int) := by omega
                replace WX := Lib.hid WX
                clear hf
                go_wp2_with fail
                go_region_held3 (fun w' => Below wr.heap.size wr w' ∧ w'.cell? ⟨w.heap.size, 0, none⟩ = some (.int .u64 ka) ∧ w'.cell? ⟨w.heap.size, 1, none⟩ = some (.int .u64 kb) ∧ w'.cell? (ad.add (i * 6)) = some (.int .i64 (n : Int)) ∧ w'.cell? ⟨gk', x, none⟩ = some (.bool false)) ((first | assumption | ((refine ⟨?_, ?_⟩; (first | assumption | exact (Below.refl _ _).drew | exact Below.refl _ _); go_keep)))) (first
                  | (go_at_call 103; (with_reducible refine (WX.out _ (by omega)).mono ?_); rintro e w2 ⟨rfl, hb2⟩; have hS2 := hold4 (by assumption) hb2))
                all_goals
                  have hbw := below_chain hS2.1 hbx
                  obtain ⟨-, k0, k1, d0, d1⟩ := hS2
                  go_wp2_with fail
                  have hbB := below_chain hbw hbi
                  have hRw := hRi.keep hbw
                  have hKw := hKi.call hbw
                  generalize w2 = wy at *
                  go_region_held3 (fun w' => Below wy.heap.size wy w' ∧ w'.cell? ⟨w.heap.size, 0, none⟩ = some (.int .u64 ka) ∧ w'.cell? ⟨w.heap.size, 1, none⟩ = some (.int .u64 kb) ∧ w'.cell? (ad.add (i * 6)) = some (.int .i64 (n : Int))) ((first | assumption | ((refine ⟨?_, ?_⟩; (first | assumption | exact (Below.refl _ _).drew | exact Below.refl _ _); go_keep)))) (first
                    | (go_at_call 103; (with_reducible refine (WX.out _ (by omega)).mono ?_); rintro e w2 ⟨rfl, hb2⟩; have hS3 := hold3 (by assumption) hb2))
                  have hbz := hS3.1
                  have d0 := hS3.2.2.2
                  have hRz := hRw.keep hbz
                  have hKz := hKw.call hbz
                  have hbC := below_chain hbz hbB
                  have s1 := hRz.tk.cell hxm
                  have s2 := hRz.pl.cell hxm
                  have s3 := hRz.js.cell (show i < l.length by omega)
                  have q1 := hRz.tk.frozen x
                  have q2' := hRz.pl.frozen x
                  have q3 := hRz.js.frozen i
                  have d2 : (w2.setCell ⟨gk', x, none⟩ (.bool true)).cell? (ad.add (i * 6)) = some (.int .i64 (n : Int)) := by
                    rw [World.cell?_of_block (w := w2) (a := ad.add (i * 6)) (Below.heap_setCell w2 ⟨gk', x, none⟩ (.bool true) _ hfar1)]; exact d0
                  have hfin := hRz.turn (x := x) (i := i) (J := j) (id := (n : Int)) hS.out.len (by rw [hS.out.lenJ]; exact hwl.out) hxm (by omega) hok1 n1 n2 n3
                  rw [← hstep.out] at hfin
                  have hKf := ((hKz.far (p := ⟨gk', x, none⟩) n5 (.bool true)).far (p := ⟨gp, x, none⟩) n4 (.int .i64 (n : Int))).far (p := ⟨ga, i, none⟩) n6 (.int .i64 ((j : Int) + 1))
                  have hbf : Below w.heap.size w (((w2.setCell ⟨gk', x, none⟩ (.bool true)).setCell ⟨gp, x, none⟩ (.int .i64 (n : Int))).setCell ⟨ga, i, none⟩ (.int .i64 ((j : Int) + 1))) := ((hbC.setCell g2 _).setCell g1 _).setCell g3 _
                  clear hRz hKz hRw hKw hRx hKx hS3 k0 k1 d1
                  clear k0 k1
                  go_wp2_with fail
                  go_roundg g
                  case measure => omega
                  case rel => exact ⟨i + 1, q2, by omega, by go_num, by go_num, by omega, hfin, hKf, hbf⟩
              | succ g3 =>
                have hf : decide ((mrun ws m (t + i)).1.getD (wayN ya ys m j) 0 ≠ 0) = true := by
                  have := hlo.out j hj0 (by omega)
                  simpa using this
                rw [hf] at d1
                generalize wayN ya ys m j = x at *
                have hxi : (x : Int) < (m : Int) := by omega
                replace WX := Lib.hid WX
                clear hf
                go_wp2_with fail
                go_region_held3 (fun w' => Below wr.heap.size wr w' ∧ w'.cell? ⟨w.heap.size, 0, none⟩ = some (.int .u64 ka) ∧ w'.cell? ⟨w.heap.size, 1, none⟩ = some (.int .u64 kb) ∧ w'.cell? (ad.add (i * 6)) = some (.int .i64 (n : Int)) ∧ w'.cell? ⟨gk', x, none⟩ = some (.bool true)) ((first | assumption | ((refine ⟨?_, ?_⟩; (first | assumption | exact (Below.refl _ _).drew | exact Below.refl _ _); go_keep)))) (first
                  | (go_at_call 103; (with_reducible refine (WX.out _ (by omega)).mono ?_); rintro e w2 ⟨rfl, hb2⟩; have hS2 := hold4 (by assumption) hb2))
                all_goals
                  go_wp2_with fail
                  go_roundg g3
                  case measure => omega
                  case rel => exact ⟨j + 1, by omega, by omega, by go_num, below_chain hS2.1 hbx⟩
end Go.Proofs.Ytkpkjpdhlmjchaa
