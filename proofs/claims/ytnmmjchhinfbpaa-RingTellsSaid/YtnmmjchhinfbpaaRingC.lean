/- ring: Share, Pick. -/
import Derived.Test.YtnmmjchhinfbpaaRingB
namespace Go.Proofs.Ytnmmjchhinfbpaa
open Go Go.RowKit Go.Deep

def u64w (x : Int) : Int := x % 18446744073709551616
theorem u64w_step (a b : Int) : u64w (u64w a + u64w b) = u64w (a + b) := by
  unfold u64w
  rw [← Int.add_emod]
theorem wrap_u64w (x : Int) : IntKind.u64.wrap x = u64w x := by
  unfold u64w
  simp [IntKind.wrap, IntKind.bits, IntKind.signed]
theorem shN_term (S : List Pt) (id : Int) (k : Nat) : shN S id (k + 1) = shN S id k + shTerm S id k := rfl
set_option maxRecDepth 100000 in
set_option maxHeartbeats 4000000 in
theorem rshare_any {g : Nat} {ka kb : Int} {S : List Pt} {w : World} (id : Int) (h : RingAt w g ka kb S) (ok : PtsOk S) : Calls Try.prog 12 #[.pointer (some ⟨g, 0, none⟩), .int .i64 id] w fun e w' => e = .returned (.int .u64 (u64w (shN S id S.length))) ∧ Below w.heap.size w w' := by
  have G := Lib.hid (rgiven_any h ok.ne)
  have hl := ok.le
  have h0 := ok.ne
  obtain ⟨ad, cap, h1, h2⟩ := h
  have hr0 := Lib.hid h2
  have c2 := h1.cell 2
  simp only [List.getElem?_toArray, List.getElem?_cons_zero, List.getElem?_cons_succ] at c2
  obtain ⟨m, hm⟩ : ∃ m : Nat, S.length = m + 1 := ⟨S.length - 1, by omega⟩
  have hmi : (S.length : Int) - 1 = (m : Int) := by omega
  have hml : (m : Int) < (S.length : Int) := by omega
  have hmw : m ≤ 65536 := by omega
  have hL0 : lastAt S 0 = (S.getD m (0, 0)).2 := by
    unfold lastAt
    rw [if_pos rfl, hm]
    rfl
  obtain ⟨ad', e', hbl, d0, d1⟩ := pt_at h2 (show m < S.length by omega)
  obtain rfl : ad = ad' := by simpa using e'
  rw [← hL0] at d1
  have hLs : ∀ k, lastAt S (k + 1) = (S.getD k (0, 0)).2 := fun k => by
    unfold lastAt
    rw [if_neg (by omega), Nat.add_sub_cancel]
  have hst := shN_term S id
  have ok' := ok
  replace hLs := Lib.hid hLs
  replace hst := Lib.hid hst
  replace ok := Lib.hid ok'
  replace hL0 := Lib.hid hL0
  replace hm := Lib.hid hm
  clear ok' d0 e' hbl
  go_enter Try.func12, Try.ntmps12
  go_wp2_with fail
  refine G.out.mono ?_
  rintro e w1 ⟨rfl, rfl⟩
  go_wp2_with fail
  go_quiet (fail)
  rename_i nq
  have h3 : Blk (w.drewN nq) g 77 #[.int .u64 ka, .int .u64 kb, .slice (some ad) S.length cap] := h1
  have h4 : Reads (w.drewN nq) w.heap.size 2 (some ad) S.length (S.flatMap pcell) := h2
  have hb3 := below_drewN (Below.refl w.heap.size w) nq
  clear h1 h2 c2 d1 G
  generalize w.drewN nq = w3 at *
  have c2 := h3.cell 2
  simp only [List.getElem?_toArray, List.getElem?_cons_zero, List.getElem?_cons_succ] at c2
  go_wp2_with fail
  clear hmi hml hmw
  go_loopw [5, 6, 30] (fun la sm ix wr => ∃ k : Nat, k ≤ S.length ∧ ix = .int .i64 (k : Nat) ∧ la = .int .u64 (lastAt S k) ∧ sm = .int .u64 (u64w (shN S id k)) ∧ Below w.heap.size w wr) (fun _ _ ix _ => S.length - (intOf ix).toNat)
  case atStart => exact ⟨0, by omega, rfl, rfl, rfl, hb3⟩
  case round =>
    obtain ⟨k, hk, rfl, rfl, rfl, hb⟩ := hrel
    by_cases hlt : k < S.length
    · have hlti : (k : Int) < (S.length : Int) := by omega
      have hr' : Reads wr w.heap.size 2 (some ad) S.length (S.flatMap pcell) := hr0.out.below hb
      obtain ⟨ad', e', hbl, d0, d1⟩ := pt_at hr' hlt
      obtain rfl : ad = ad' := by simpa using e'
      have h5 := hLs.out k
      have h6 := hst.out k
      unfold shTerm at h6
      obtain ⟨xi, xa, hx⟩ : ∃ xi xa, S.getD k (0, 0) = (xi, xa) := ⟨_, _, rfl⟩
      rw [hx] at d0 d1 h5 h6
      dsimp only at d0 d1 h5 h6
      have h7 := u64w_step (shN S id k) (xa - lastAt S k)
      generalize lastAt S k = lk at *
      generalize hsk : shN S id k = sk at *
      clear h4 h3 c2 hb3 hr' e'
      have e5 : lastAt S (k + 1) = xa := h5
      replace h5 := Lib.hid h5
      replace hx := Lib.hid hx
      replace hsk := Lib.hid hsk
      by_cases hid : xi = id
      · rw [if_pos hid] at h6
        have hib : (xi == id) = true := by simpa using hid
        rw [← h6] at h7
        replace hid := Lib.hid hid
        replace h6 := Lib.hid h6
        replace h7 := Lib.hid h7
        replace e5 := Lib.hid e5
        go_wp2_with fail
        go_roundw
        case rel => exact ⟨k + 1, by omega, by go_num, by rw [e5.out], by rw [wrap_u64w, wrap_u64w, h7.out], below_alloc hb _⟩
        case measure => simp [intOf]; omega
      · rw [if_neg hid, Int.add_zero] at h6
        have hib : (xi == id) = false := by simpa using hid
        replace hid := Lib.hid hid
        replace h6 := Lib.hid h6
        replace h7 := Lib.hid h7
        replace e5 := Lib.hid e5
        go_wp2_with fail
        go_roundw
        case rel => exact ⟨k + 1, by omega, by go_num, by rw [e5.out], by rw [h6.out], below_alloc hb _⟩
        case measure => simp [intOf]; omega
    · obtain rfl : k = S.length := by omega
      have hlti : ¬ (S.length : Int) < (S.length : Int) := by omega
      clear h3 h4 c2 hb3
      go_wp2_with fail
      go_ret
      exact ⟨rfl, hb⟩
theorem rshare_nil (id : Int) (w : World) : Calls Try.prog 12 #[.pointer none, .int .i64 id] w fun e w' => e = .returned (.int .u64 0) ∧ w = w' := by
  go_enter Try.func12, Try.ntmps12
  go_wp2_with fail
  refine (rgiven_nil _).mono ?_
  rintro e w1 ⟨rfl, rfl⟩
  go_wp2_with fail
  go_ret
  exact ⟨rfl, rfl⟩
theorem rshare_plain {g : Nat} {ka kb : Int} (id : Int) {w : World} (h : Blk w g 77 #[.int .u64 ka, .int .u64 kb, .slice none 0 0]) : Calls Try.prog 12 #[.pointer (some ⟨g, 0, none⟩), .int .i64 id] w fun e w' => e = .returned (.int .u64 0) ∧ w = w' := by
  have G := Lib.hid (rgiven_plain h)
  go_enter Try.func12, Try.ntmps12
  go_wp2_with fail
  refine G.out.mono ?_
  rintro e w1 ⟨rfl, rfl⟩
  go_wp2_with fail
  go_ret
  exact ⟨rfl, rfl⟩
theorem rpick_nil (t : Tup) (w : World) : Calls Try.prog 11 #[.pointer none, t.val] w fun e w' => e = .returned (.tuple #[.int .i64 0, .bool false]) ∧ Below w.heap.size w w' := by
  obtain ⟨t1, t2, t3, t4, t5, t6, t7, t8, t9⟩ := t
  unfold Tup.val
  dsimp only
  have hb := below_alloc (Below.refl w.heap.size w) (.cells #[.int .i64 t1, .bool t2, .int .u64 t3, .int .u64 t4, .bool t5, .int .u64 t6, .int .u64 t7, .int .i64 t8, .int .i64 t9] 29)
  go_enter Try.func11, Try.ntmps11
  go_wp2_with fail
  refine (rgiven_nil _).mono ?_
  rintro e w1 ⟨rfl, rfl⟩
  go_wp2_with fail
  go_ret2
  exact ⟨rfl, hb⟩
set_option maxRecDepth 100000 in
set_option maxHeartbeats 4000000 in
theorem rpick_any {g : Nat} {ka kb : Int} {S : List Pt} {w : World} (t : Tup) (h : RingAt w g ka kb S) (ok : PtsOk S) : Calls Try.prog 11 #[.pointer (some ⟨g, 0, none⟩), t.val] w fun e w' => e = .returned (.tuple #[.int .i64 (ownP S (sipHash ka kb ⟨(tupPut t).toArray⟩)).1, .bool true]) ∧ Below w.heap.size w w' := by
  obtain ⟨w0, hw0⟩ : ∃ w0, w0 = w.alloc (.cells t.cells.toArray 29) := ⟨_, rfl⟩
  have hb0 : Below w.heap.size w w0 := hw0 ▸ below_alloc (Below.refl _ _) _
  have B1 : Blk w0 w.heap.size 29 t.cells.toArray := hw0 ▸ Blk.new w _ _
  have hR := h.call hb0
  have G := rgiven_any hR ok.ne
  have S1 := fun W => hash_any ka kb ⟨(tupPut t).toArray⟩ W (by have := tupPut_len t; simp [ByteArray.size]; omega)
  have T := tuple_put t
  generalize sipHash ka kb ⟨(tupPut t).toArray⟩ = n at *
  have AT := fun W (hb : Below w0.heap.size w0 W) => rat_any n (hR.call hb) ok
  generalize (ownP S n).1 = r at *
  obtain ⟨ad, cap, h1, h2⟩ := hR
  have p0 := h1.cell 0
  have p1 := h1.cell 1
  obtain ⟨tp, v, hi, lo, v', hi', lo', sp, dp⟩ := t
  unfold Tup.val at *
  have c0 := B1.cell 0
  have c1 := B1.cell 1
  have c2 := B1.cell 2
  have c3 := B1.cell 3
  have c4 := B1.cell 4
  have c5 := B1.cell 5
  have c6 := B1.cell 6
  have c7 := B1.cell 7
  have c8 := B1.cell 8
  dsimp only at *
  simp only [List.getElem?_toArray, List.getElem?_cons_zero, List.getElem?_cons_succ] at c0 c1 c2 c3 c4 c5 c6 c7 c8 p0 p1
  generalize (⟨(tupPut _).toArray⟩ : ByteArray) = z at *
  replace S1 := Lib.hid S1
  replace T := Lib.hid T
  replace AT := Lib.hid AT
  replace G := Lib.hid G
  clear h h1 h2 ok B1
  go_enter Try.func11, Try.ntmps11
  go_wp2_with fail
  rw [← hw0]
  clear hw0
  refine G.out.mono ?_
  rintro e w1 ⟨rfl, rfl⟩
  go_wp2_with fail
  go_region_held3 (fun w' => Below w0.heap.size w0 w' ∧ w'.cell? ⟨g, 0, none⟩ = some (.int .u64 ka) ∧ w'.cell? ⟨g, 1, none⟩ = some (.int .u64 kb) ∧ w'.cell? ⟨w.heap.size, 0, none⟩ = some (.int .i64 tp) ∧ w'.cell? ⟨w.heap.size, 1, none⟩ = some (.bool v) ∧ w'.cell? ⟨w.heap.size, 2, none⟩ = some (.int .u64 hi) ∧ w'.cell? ⟨w.heap.size, 3, none⟩ = some (.int .u64 lo) ∧ w'.cell? ⟨w.heap.size, 4, none⟩ = some (.bool v') ∧ w'.cell? ⟨w.heap.size, 5, none⟩ = some (.int .u64 hi') ∧ w'.cell? ⟨w.heap.size, 6, none⟩ = some (.int .u64 lo') ∧ w'.cell? ⟨w.heap.size, 7, none⟩ = some (.int .i64 sp) ∧ w'.cell? ⟨w.heap.size, 8, none⟩ = some (.int .i64 dp)) ((first | assumption | ((refine ⟨?_, ?_⟩; (first | assumption | exact (Below.refl _ _).drew | exact Below.refl _ _); go_keep)))) (first
    | (go_at_call 39; (with_reducible refine (T.out _).mono ?_); rintro e w2 ⟨rfl, hb2⟩; have hS := hold11 (by assumption) hb2)
    | (go_at_call 30; (with_reducible refine (S1.out _).mono ?_); rintro e w2 ⟨rfl, hb2⟩; have hS := hold11 (by assumption) hb2)
    | (go_at_call 10; (with_reducible refine (AT.out _ (And.left (by assumption))).mono ?_); rintro e w2 ⟨rfl, hb2⟩; have hS := hold11 (by assumption) hb2))
  all_goals
    go_wp2_with fail
    go_ret2
    exact ⟨rfl, below_chain (by exact hS.1) hb0⟩
end Go.Proofs.Ytnmmjchhinfbpaa
