/- ring: New where there is no ring; the check of an example. -/
import Derived.Test.YtnmmjchhinfbpaaRingE
namespace Go.Proofs.Ytnmmjchhinfbpaa
open Go Go.RowKit Go.Deep

set_option maxHeartbeats 2000000 in
theorem rnew_err (ver : Int) (n : Nat) (A0 : Option Addr) (c0 : Nat) (ka kb each : Int) (w : World) (he : ringE each n ≠ 0) :
    Calls Try.prog 8 #[.agg #[.int .i64 ver, .slice A0 n c0], .agg #[.int .u64 ka, .int .u64 kb], .int .i64 each] w fun e w' => e = .returned (.tuple #[.pointer none, .int .i64 (ringE each n)]) ∧ Below w.heap.size w w' := by
  obtain ⟨w0, hw0⟩ : ∃ w0, w0 = (w.alloc (.cells #[.int .i64 ver, .slice A0 n c0] 37)).alloc (.cells #[.int .u64 ka, .int .u64 kb] 25) := ⟨_, rfl⟩
  have hb0 : Below w.heap.size w w0 := hw0 ▸ below_alloc (below_alloc (Below.refl _ _) _) _
  have S0 : Blk w0 w.heap.size 37 #[.int .i64 ver, .slice A0 n c0] := hw0 ▸ (Blk.new w _ _).alloc _
  have s1 := S0.cell 1
  simp only [List.getElem?_toArray, List.getElem?_cons_zero, List.getElem?_cons_succ] at s1
  unfold ringE at he ⊢
  by_cases h1 : each < 1
  · have d1 : decide (each < 1) = true := by simpa using h1
    rw [if_pos (.inl h1)]
    clear he
    go_enter Try.func8, Try.ntmps8
    go_wp2_with fail
    rw [← hw0]
    go_ret2
    exact ⟨rfl, hb0⟩
  have d1 : decide (each < 1) = false := by simpa using h1
  by_cases h2 : 64 < each
  · have d2 : decide (64 < each) = true := by simpa using h2
    rw [if_pos (.inr h2)]
    clear he
    go_enter Try.func8, Try.ntmps8
    go_wp2_with fail
    rw [← hw0]
    go_ret2
    exact ⟨rfl, hb0⟩
  have d2 : decide (64 < each) = false := by simpa using h2
  rw [if_neg (by omega)] at he ⊢
  by_cases h3 : n = 0
  · subst h3
    rw [if_pos rfl]
    clear he
    go_enter Try.func8, Try.ntmps8
    go_wp2_with fail
    rw [← hw0]
    clear hw0
    go_wp2_with fail
    go_ret2
    exact ⟨rfl, hb0⟩
  rw [if_neg h3] at he ⊢
  have d3 : ((n : Int) == 0) = false := by rw [beq_eq_false_iff_ne]; omega
  by_cases h4 : 64 < n
  · have d4 : decide ((64 : Int) < (n : Int)) = true := by simp; omega
    rw [if_pos h4]
    clear he
    go_enter Try.func8, Try.ntmps8
    go_wp2_with fail
    rw [← hw0]
    clear hw0
    go_wp2_with fail
    go_ret2
    exact ⟨rfl, hb0⟩
  · rw [if_neg h4] at he
    exact absurd rfl he
theorem ptsOf_mem {ka kb : Int} {m : Nat} {l : List Bk} {p : Pt} (h : p ∈ ptsOf ka kb l m) : p.1 ∈ l.map Bk.id := by
  unfold ptsOf rowP at h
  obtain ⟨b, hb, hp⟩ := List.mem_flatMap.1 h
  obtain ⟨j, _, rfl⟩ := List.mem_map.1 hp
  exact List.mem_map.2 ⟨b, hb, rfl⟩
theorem ptsOf_ne {ka kb : Int} {m : Nat} {l : List Bk} (h0 : 0 < l.length) (hm : 1 ≤ m) : ptsOf ka kb l m ≠ [] := by
  intro e
  have := ptsOf_len ka kb m l
  rw [e, List.length_nil] at this
  have := Nat.mul_pos h0 hm
  omega
abbrev tupZ : Tup := ⟨0, false, 0, 0, false, 0, 0, 0, 0⟩
set_option maxRecDepth 100000 in
set_option maxHeartbeats 8000000 in
theorem awake51 (w : World) : Calls Try.prog 7 #[] w fun e w' => e = .returned (.bool true) ∧ Below w.heap.size w w' := by
  have N1 := fun (W : World) A hr => rnew_some 0 [⟨7, 0, 0, false, 0, 0⟩] A 1 0 0 2 W hr (by omega) (by decide) (by decide) (by decide)
  have N2 := fun (W : World) => rnew_err 0 0 none 0 0 0 1 W (by decide)
  have e8 : ringE 1 0 = 8 := by decide
  rw [e8] at N2
  have PN := fun W => rpick_nil tupZ W
  unfold tupZ Tup.val at PN
  dsimp only at PN
  replace N1 := Lib.hid N1
  replace N2 := Lib.hid N2
  replace PN := Lib.hid PN
  clear e8
  go_enter Try.func7, Try.ntmps7
  go_wp2_with fail
  have R1 : Reads (w.alloc (.cells #[.int .i64 7, .int .i64 0, .int .i64 0, .bool false, .int .u64 0, .int .u64 0] 46)) (w.alloc (.cells #[.int .i64 7, .int .i64 0, .int .i64 0, .bool false, .int .u64 0, .int .u64 0] 46)).heap.size 6 (some ⟨w.heap.size, 0, none⟩) 1 [.int .i64 7, .int .i64 0, .int .i64 0, .bool false, .int .u64 0, .int .u64 0] := lits_read w _ 6 1 _ _ rfl (by simp)
  have hb1 : Below w.heap.size w (w.alloc (.cells #[.int .i64 7, .int .i64 0, .int .i64 0, .bool false, .int .u64 0, .int .u64 0] 46)) := below_alloc (Below.refl _ _) _
  generalize w.alloc (.cells #[.int .i64 7, .int .i64 0, .int .i64 0, .bool false, .int .u64 0, .int .u64 0] 46) = w1 at *
  refine (N1.out _ _ R1).mono ?_
  rintro e w2 ⟨g, S, rfl, hp, ok, hR, hb2⟩
  have hb3 := below_chain hb2 hb1
  have hids : ∀ p ∈ S, p.1 = 7 := fun p hpS => by simpa using ptsOf_mem (hp.mem_iff.1 hpS)
  have hS0 : S ≠ [] := fun e => by have := ok.ne; rw [e] at this; simp at this
  have hSl : S.length = 2 := by rw [hp.length_eq, ptsOf_len]; rfl
  have hown : ∀ n, (ownP S n).1 = 7 := fun n => hids _ (ownP_mem hS0 n)
  have hsh : shN S 7 S.length = 0 := by
    have := shAll_zero S [7] (by decide) (fun p hp => by simp [hids p hp])
    simpa [shAll] using this
  have AT := fun W (h : Below w2.heap.size w2 W) => rat_any 5 (hR.call h) ok
  have SH := fun W (h : Below w2.heap.size w2 W) => rshare_any 7 (hR.call h) ok
  have PO := fun W (h : Below w2.heap.size w2 W) => rpoints_any (hR.call h) ok.ne
  rw [hown] at AT
  rw [hsh] at SH
  rw [hSl] at PO
  rw [show u64w 0 = 0 from rfl] at SH
  replace AT := Lib.hid AT
  replace SH := Lib.hid SH
  replace PO := Lib.hid PO
  clear N1 R1 hb1 hb2 hids hown hsh hp ok hR hS0 hSl
  go_wp2_with fail
  refine (AT.out _ (Below.refl _ _)).mono ?_
  rintro e w3 ⟨rfl, hb4⟩
  go_wp2_with fail
  refine (N2.out _).mono ?_
  rintro e w4 ⟨rfl, hb5⟩
  have hb6 := below_chain hb5 hb4
  have P5 := Blk.new w4 77 #[.int .u64 0, .int .u64 0, .slice none 0 0]
  have hb7 := below_alloc hb6 (.cells #[.int .u64 0, .int .u64 0, .slice none 0 0] 77)
  clear hb5 hb4 hb6 N2
  go_wp2_with fail
  generalize w4.alloc (.cells #[.int .u64 0, .int .u64 0, .slice none 0 0] 77) = w5 at *
  generalize w4.heap.size = gp at *
  refine (PN.out _).mono ?_
  rintro e w6 ⟨rfl, hb8⟩
  have P6 := P5.call hb8
  have hb9 := below_chain hb8 hb7
  clear P5 hb8 hb7 PN
  go_wp2_with fail
  refine (rat_plain 0 P6).mono ?_
  rintro e w7 ⟨rfl, rfl⟩
  go_wp2_with fail
  refine (SH.out _ hb9).mono ?_
  rintro e w8 ⟨rfl, hb10⟩
  have P8 := P6.call hb10
  have hb11 := below_chain hb10 hb9
  clear P6 hb10 hb9 SH
  go_wp2_with fail
  refine (PO.out _ hb11).mono ?_
  rintro e w9 ⟨rfl, rfl⟩
  go_wp2_with fail
  refine (rpoints_nil _).mono ?_
  rintro e w10 ⟨rfl, rfl⟩
  go_wp2_with fail
  refine (rshare_plain 1 P8).mono ?_
  rintro e w11 ⟨rfl, rfl⟩
  go_wp2_with fail
  go_ret
  exact ⟨rfl, below_chain hb11 hb3⟩
end Go.Proofs.Ytnmmjchhinfbpaa
