/- part and its reference: Spread. -/
import Derived.Test.YtdkcjfcjckpjcaaPartA
import Derived.Test.YtdkcjfcjckpjcaaKitB
namespace Go.Proofs.Ytdkcjfcjckpjcaa
open Go Go.RowKit Go.Deep

theorem tup_at {w : World} {B : Nat} {A : Option Addr} {l : List Tup} (h : Reads w B 9 A l.length (l.flatMap Tup.cells)) {k : Nat} (hk : k < l.length) :
    ∃ ad t, A = some ad ∧ ad.block < B ∧ l[k]? = some t ∧ w.cell? (ad.add (k * 9)) = some (.int .i64 t.p) ∧ w.cell? ⟨(ad.add (k * 9)).block, (ad.add (k * 9)).off + 1, none⟩ = some (.bool t.v) ∧
      w.cell? ⟨(ad.add (k * 9)).block, (ad.add (k * 9)).off + 2, none⟩ = some (.int .u64 t.hi) ∧ w.cell? ⟨(ad.add (k * 9)).block, (ad.add (k * 9)).off + 3, none⟩ = some (.int .u64 t.lo) ∧
      w.cell? ⟨(ad.add (k * 9)).block, (ad.add (k * 9)).off + 4, none⟩ = some (.bool t.v') ∧ w.cell? ⟨(ad.add (k * 9)).block, (ad.add (k * 9)).off + 5, none⟩ = some (.int .u64 t.hi') ∧
      w.cell? ⟨(ad.add (k * 9)).block, (ad.add (k * 9)).off + 6, none⟩ = some (.int .u64 t.lo') ∧ w.cell? ⟨(ad.add (k * 9)).block, (ad.add (k * 9)).off + 7, none⟩ = some (.int .i64 t.sp) ∧
      w.cell? ⟨(ad.add (k * 9)).block, (ad.add (k * 9)).off + 8, none⟩ = some (.int .i64 t.dp) := by
  obtain ⟨ad, rfl, hb, hc⟩ := h.rec_at Tup.cells (fun _ => rfl) hk
  exact ⟨ad, l[k], rfl, hb, List.getElem?_eq_getElem hk, hc 0 _ rfl, hc 1 _ rfl, hc 2 _ rfl, hc 3 _ rfl, hc 4 _ rfl, hc 5 _ rfl, hc 6 _ rfl, hc 7 _ rfl, hc 8 _ rfl⟩

def cntP (a b : Int) (l : List Tup) (n : Int) (j : Nat) : Nat := l.countP fun t => partI a b t n == (j : Int)
def spreadL (a b : Int) (l : List Tup) (n : Int) : List Int := if mayB n then (List.range n.toNat).map fun j => (cntP a b l n j : Int) else []
theorem cntP_le (a b : Int) (l : List Tup) (n : Int) (j : Nat) : cntP a b l n j ≤ l.length := List.countP_le_length
theorem cntP_succ (a b : Int) (l : List Tup) (n : Int) (j k : Nat) (t : Tup) (h : l[k]? = some t) : cntP a b (l.take (k + 1)) n j = cntP a b (l.take k) n j + if partI a b t n = (j : Int) then 1 else 0 := by
  obtain ⟨hk, rfl⟩ := List.getElem?_eq_some_iff.1 h
  unfold cntP
  rw [List.take_succ_eq_append_getElem hk, List.countP_append]
  by_cases h2 : partI a b l[k] n = (j : Int) <;> simp [h2]
theorem partI_lt (a b : Int) (t : Tup) (n : Int) (h : mayB n = true) : 0 ≤ partI a b t n ∧ partI a b t n < n := by
  have hn : 1 ≤ n ∧ n ≤ 16 := by simpa [mayB] using h
  unfold partI
  rw [if_pos h]
  obtain ⟨x, hx, hlt⟩ := sip_rng b a ⟨(tupPut t).toArray⟩
  rw [hx]
  obtain ⟨m, rfl⟩ := Int.eq_ofNat_of_zero_le (show 0 ≤ n by omega)
  unfold scaleI
  rw [if_neg (by omega)]
  have := scale_lt x m hlt (by omega)
  omega

theorem spread_none (a b : Int) (l : List Tup) (n : Int) (A : Option Addr) (c : Nat) (w : World) (h : mayB n = false) : Calls Try.prog 95 #[.agg #[.int .u64 a, .int .u64 b], .slice A l.length c, .int .i64 n] w fun e w' => e = .returned (.slice none 0 0) ∧ Below w.heap.size w w' := by
  have M := may_any n
  rw [h] at M
  replace M := Lib.hid M
  go_enter Try.func95, Try.ntmps95
  go_wp2_with (go_at_call 121; refine (M.out _).mono ?_; rintro e w1 ⟨rfl, rfl⟩)
  go_ret
  exact ⟨rfl, (by repeat (first | exact Below.refl _ _ | assumption | refine below_alloc ?_ _ | refine below_chain (by assumption) ?_ | refine below_call2 (by assumption) ?_ (by first | omega | (simp; done) | (simp; omega) | (simp [World.setCell]; omega)) | refine below_drewN ?_ _ | refine Below.drew ?_ | refine Below.alloc ?_ (by first | omega | (simp; done) | (simp; omega) | (simp [World.setCell]; omega)) _ | refine Below.setCell ?_ (by first | omega | (simp; done) | (simp; omega) | (simp [World.setCell]; omega)) _))⟩

set_option maxRecDepth 100000 in
set_option maxHeartbeats 2000000 in
theorem spread_some (a b : Int) (l : List Tup) (n : Nat) (A : Option Addr) (c : Nat) (w : World) (h : mayB n = true) (hr : Reads w w.heap.size 9 A l.length (l.flatMap Tup.cells)) (hl : l.length ≤ 1000000) :
    Calls Try.prog 95 #[.agg #[.int .u64 a, .int .u64 b], .slice A l.length c, .int .i64 n] w fun e w' => e = .returned (.slice (some ⟨w.heap.size + 1, 0, none⟩) n n) ∧ w'.rowIs (w.heap.size + 1) 3 n (fun j => .int .i64 (cntP a b l n j : Nat)) ∧ Below w.heap.size w w' := by
  have M := may_any n
  rw [h] at M
  replace M := Lib.hid M
  have hn : 1 ≤ (n : Int) ∧ (n : Int) ≤ 16 := by simpa [mayB] using h
  have P := partI_lt a b
  have hmk := run_make_row' (P := Try.prog) 22 3 (.int .i64 0) 8 Try.underlying22 info_int rfl .i64 .i64 n (by omega) (by omega)
  have B0 : Blk (w.alloc (.cells #[.int .u64 a, .int .u64 b] 119)) w.heap.size 119 #[.int .u64 a, .int .u64 b] := Blk.new w _ _
  go_enter Try.func95, Try.ntmps95
  go_wp2_with (go_at_call 121; refine (M.out _).mono ?_; rintro e w1 ⟨rfl, rfl⟩)
  clear hmk
  go_loopw [17] (fun i wr => ∃ k : Nat, k ≤ l.length ∧ i = .int .i64 (k : Nat) ∧ Blk wr w.heap.size 119 #[.int .u64 a, .int .u64 b] ∧ wr.rowIs (w.heap.size + 1) 3 n (fun j => .int .i64 (cntP a b (l.take k) n j : Nat)) ∧ Below w.heap.size w wr) (fun i _ => l.length - (intOf i).toNat)
  case atStart => exact ⟨0, by omega, rfl, B0.alloc _, by simpa using (World.rowIs_made (w.alloc (.cells #[.int .u64 a, .int .u64 b] 119)) (.int .i64 0) n 3).congr (g := fun j => .int .i64 (cntP a b (l.take 0) n j : Nat)) (fun i hi => by simp [cntP]), ((Below.refl _ _).alloc (Nat.le_refl _) _).alloc (by simp) _⟩
  case round =>
    obtain ⟨k, hk, rfl, hB, hrow, hb⟩ := hrel
    by_cases hlt : k < l.length
    · have hlti : (k : Int) < (l.length : Int) := by omega
      obtain ⟨ad, t, rfl, hbl, ht, c0, c1, c2, c3, c4, c5, c6, c7, c8⟩ := tup_at (hr.below hb) hlt
      have hcs := Lib.hid fun j => cntP_succ a b l n j k t ht
      have hcl := cntP_le a b (l.take k) n
      have hPt := P t n h
      have Q := part_of a b t n
      obtain ⟨q, hq⟩ := Int.eq_ofNat_of_zero_le hPt.1
      rw [hq] at hPt Q
      have hqn : q < n := by omega
      have r1 := hrow.cell (i := q) hqn
      have q1 := hrow.frozen q
      have hcq := hcl q
      have htl : (l.take k).length ≤ k := List.length_take_le _ _
      have d0 := hB.cell 0
      have d1 := hB.cell 1
      simp at d0 d1
      have n0 := hB.lt
      have n1 := hrow.lt
      obtain ⟨p, v, hi, lo, v', hi', lo', sp, dp⟩ := t
      unfold Tup.val at Q
      dsimp only at *
      replace Q := Lib.hid Q
      replace hq := Lib.hid hq
      clear hcl P hPt
      go_wp2_with (go_at_call 93; with_reducible refine (Q.out _).mono ?_; rintro e w1 ⟨rfl, hb1⟩; have hrow1 := rowIs_call (rowIs_alloc hrow _) hb1; clear r1 q1; have r1 := hrow1.cell (i := q) hqn; have q1 := hrow1.frozen q)
      go_roundw
      case rel =>
        refine ⟨k + 1, by omega, by go_num, (((hB.alloc _).call hb1).far (by simp) _), ((hrow1.set q _).congr fun j hj => ?_), (below_chain hb1 (below_alloc hb _)).setCell (by simp) _⟩
        rw [hcs.out j, hq.out]
        by_cases e : j = q
        · subst e; simp
        · rw [if_neg e, if_neg (by omega)]; simp
      case measure => simp [intOf]; omega
    · obtain rfl : k = l.length := by omega
      have hlti : ¬ (l.length : Int) < (l.length : Int) := by omega
      rw [List.take_length] at hrow
      go_wp2_with fail
      go_ret
      exact ⟨rfl, hrow, hb⟩

theorem refspread_none (a b : Int) (l : List Tup) (n : Int) (A : Option Addr) (c : Nat) (w : World) (h : mayB n = false) : Calls Try.prog 96 #[.agg #[.int .u64 a, .int .u64 b], .slice A l.length c, .int .i64 n] w fun e w' => e = .returned (.slice none 0 0) ∧ Below w.heap.size w w' := by
  by_cases h1 : 1 ≤ n
  · have h2 : ¬ n ≤ 16 := by intro h2; simp [mayB, h1, h2] at h
    have d1 : decide (n < 1) = false := by simp; omega
    have d2 : decide (16 < n) = true := by simp; omega
    go_enter Try.func96, Try.ntmps96
    go_wp2_with fail
    go_ret
    exact ⟨rfl, (by repeat (first | exact Below.refl _ _ | assumption | refine below_alloc ?_ _ | refine below_chain (by assumption) ?_ | refine below_call2 (by assumption) ?_ (by first | omega | (simp; done) | (simp; omega) | (simp [World.setCell]; omega)) | refine below_drewN ?_ _ | refine Below.drew ?_ | refine Below.alloc ?_ (by first | omega | (simp; done) | (simp; omega) | (simp [World.setCell]; omega)) _ | refine Below.setCell ?_ (by first | omega | (simp; done) | (simp; omega) | (simp [World.setCell]; omega)) _))⟩
  · have d1 : decide (n < 1) = true := by simp; omega
    go_enter Try.func96, Try.ntmps96
    go_wp2_with fail
    go_ret
    exact ⟨rfl, (by repeat (first | exact Below.refl _ _ | assumption | refine below_alloc ?_ _ | refine below_chain (by assumption) ?_ | refine below_call2 (by assumption) ?_ (by first | omega | (simp; done) | (simp; omega) | (simp [World.setCell]; omega)) | refine below_drewN ?_ _ | refine Below.drew ?_ | refine Below.alloc ?_ (by first | omega | (simp; done) | (simp; omega) | (simp [World.setCell]; omega)) _ | refine Below.setCell ?_ (by first | omega | (simp; done) | (simp; omega) | (simp [World.setCell]; omega)) _))⟩

set_option maxRecDepth 100000 in
set_option maxHeartbeats 2000000 in
theorem refspread_some (a b : Int) (l : List Tup) (n : Nat) (A : Option Addr) (c : Nat) (w : World) (h : mayB n = true) (hwf : ∀ t ∈ l, t.hi < 18446744073709551616 ∧ t.lo < 18446744073709551616 ∧ t.hi' < 18446744073709551616 ∧ t.lo' < 18446744073709551616) (hr : Reads w w.heap.size 9 A l.length (l.flatMap Tup.cells)) (hl : l.length ≤ 1000000) :
    Calls Try.prog 96 #[.agg #[.int .u64 a, .int .u64 b], .slice A l.length c, .int .i64 n] w fun e w' => e = .returned (.slice (some ⟨w.heap.size + 1, 0, none⟩) n n) ∧ w'.rowIs (w.heap.size + 1) 3 n (fun j => .int .i64 (cntP a b l n j : Nat)) ∧ Below w.heap.size w w' := by
  have hn : 1 ≤ (n : Int) ∧ (n : Int) ≤ 16 := by simpa [mayB] using h
  have P := partI_lt a b
  have hmk := run_make_row' (P := Try.prog) 22 3 (.int .i64 0) 8 Try.underlying22 info_int rfl .i64 .i64 n (by omega) (by omega)
  have B0 : Blk (w.alloc (.cells #[.int .u64 a, .int .u64 b] 119)) w.heap.size 119 #[.int .u64 a, .int .u64 b] := Blk.new w _ _
  go_enter Try.func96, Try.ntmps96
  go_wp2_with fail
  clear hmk
  go_loopw [8] (fun i wr => ∃ k : Nat, k ≤ l.length ∧ i = .int .i64 (k : Nat) ∧ Blk wr w.heap.size 119 #[.int .u64 a, .int .u64 b] ∧ wr.rowIs (w.heap.size + 1) 3 n (fun j => .int .i64 (cntP a b (l.take k) n j : Nat)) ∧ Below w.heap.size w wr) (fun i _ => l.length - (intOf i).toNat)
  case atStart => exact ⟨0, by omega, rfl, B0.alloc _, by simpa using (World.rowIs_made (w.alloc (.cells #[.int .u64 a, .int .u64 b] 119)) (.int .i64 0) n 3).congr (g := fun j => .int .i64 (cntP a b (l.take 0) n j : Nat)) (fun i hi => by simp [cntP]), ((Below.refl _ _).alloc (Nat.le_refl _) _).alloc (by simp) _⟩
  case round =>
    obtain ⟨k, hk, rfl, hB, hrow, hb⟩ := hrel
    by_cases hlt : k < l.length
    · have hlti : (k : Int) < (l.length : Int) := by omega
      obtain ⟨ad, t, rfl, hbl, ht, c0, c1, c2, c3, c4, c5, c6, c7, c8⟩ := tup_at (hr.below hb) hlt
      have hcs := Lib.hid fun j => cntP_succ a b l n j k t ht
      have hcl := cntP_le a b (l.take k) n
      have hPt := P t n h
      obtain ⟨x1, x2, x3, x4⟩ := hwf t (List.mem_of_getElem? ht)
      have Q := fun W => refpart_of a b t n W x1 x2 x3 x4
      clear x1 x2 x3 x4
      obtain ⟨q, hq⟩ := Int.eq_ofNat_of_zero_le hPt.1
      rw [hq] at hPt Q
      have hqn : q < n := by omega
      have r1 := hrow.cell (i := q) hqn
      have q1 := hrow.frozen q
      have hcq := hcl q
      have htl : (l.take k).length ≤ k := List.length_take_le _ _
      have d0 := hB.cell 0
      have d1 := hB.cell 1
      simp at d0 d1
      have n0 := hB.lt
      have n1 := hrow.lt
      obtain ⟨p, v, hi, lo, v', hi', lo', sp, dp⟩ := t
      unfold Tup.val at Q
      dsimp only at *
      replace Q := Lib.hid Q
      replace hq := Lib.hid hq
      clear hcl P hPt
      go_wp2_with fail
      go_region_held3 (fun w' => Below wr.heap.size wr w' ∧ w'.cell? ⟨w.heap.size, 0, none⟩ = some (.int .u64 a) ∧ w'.cell? ⟨w.heap.size, 1, none⟩ = some (.int .u64 b) ∧ w'.cell? (ad.add (k * 9)) = some (.int .i64 p) ∧ w'.cell? ⟨(ad.add (k * 9)).block, (ad.add (k * 9)).off + 1, none⟩ = some (.bool v) ∧ w'.cell? ⟨(ad.add (k * 9)).block, (ad.add (k * 9)).off + 2, none⟩ = some (.int .u64 hi) ∧ w'.cell? ⟨(ad.add (k * 9)).block, (ad.add (k * 9)).off + 3, none⟩ = some (.int .u64 lo) ∧ w'.cell? ⟨(ad.add (k * 9)).block, (ad.add (k * 9)).off + 4, none⟩ = some (.bool v') ∧ w'.cell? ⟨(ad.add (k * 9)).block, (ad.add (k * 9)).off + 5, none⟩ = some (.int .u64 hi') ∧ w'.cell? ⟨(ad.add (k * 9)).block, (ad.add (k * 9)).off + 6, none⟩ = some (.int .u64 lo') ∧ w'.cell? ⟨(ad.add (k * 9)).block, (ad.add (k * 9)).off + 7, none⟩ = some (.int .i64 sp) ∧ w'.cell? ⟨(ad.add (k * 9)).block, (ad.add (k * 9)).off + 8, none⟩ = some (.int .i64 dp)) ((first | assumption | ((refine ⟨?_, ?_⟩; (first | assumption | exact (Below.refl _ _).drew | exact Below.refl _ _); go_keep)))) (first
        | (go_at_call 94; with_reducible refine (Q.out _).mono ?_; rintro e w1 ⟨rfl, hb1⟩; have hS := hold11 (by assumption) hb1))
      have hrow1 := rowIs_call hrow hS.1
      have hBr := hB.call hS.1
      clear r1 q1
      have r1 := hrow1.cell (i := q) hqn
      have q1 := hrow1.frozen q
      go_wp2_with fail
      go_roundw
      case rel =>
        refine ⟨k + 1, by omega, by go_num, (hBr.far (by simp) _), ((hrow1.set q _).congr fun j hj => ?_), (below_chain hS.1 hb).setCell (by simp) _⟩
        rw [hcs.out j, hq.out]
        by_cases e : j = q
        · subst e; simp
        · rw [if_neg e, if_neg (by omega)]; simp
      case measure => simp [intOf]; omega
    · obtain rfl : k = l.length := by omega
      have hlti : ¬ (l.length : Int) < (l.length : Int) := by omega
      rw [List.take_length] at hrow
      go_wp2_with fail
      go_ret
      exact ⟨rfl, hrow, hb⟩
end Go.Proofs.Ytdkcjfcjckpjcaa
