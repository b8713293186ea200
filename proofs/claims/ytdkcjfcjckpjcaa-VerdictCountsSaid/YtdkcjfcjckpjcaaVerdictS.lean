/- cloakroomref31: counts. -/
import Derived.Test.YtdkcjfcjckpjcaaVerdictD
namespace Go.Proofs.Ytdkcjfcjckpjcaa
open Go Go.RowKit Go.Deep

def cnt (p : Vd → Bool) (l : List Vd) : Nat := (l.filter p).length
theorem cnt_succ (p : Vd → Bool) {l : List Vd} {k : Nat} {v : Vd} (h : l[k]? = some v) : cnt p (l.take (k + 1)) = cnt p (l.take k) + if p v then 1 else 0 := by
  unfold cnt
  rw [List.take_add_one, h, List.filter_append, List.length_append]
  congr 1
  cases hp : p v <;> simp [hp]
theorem cnt_len (p : Vd → Bool) (l : List Vd) (k : Nat) : cnt p (l.take k) ≤ k := by
  have h1 := List.length_filter_le p (l.take k)
  rw [List.length_take] at h1
  unfold cnt
  omega
theorem cnt_append (p : Vd → Bool) (a b : List Vd) : cnt p (a ++ b) = cnt p a + cnt p b := by simp [cnt]
def bcnt : List Vd → Nat
  | [] => 0
  | v :: l => v.s.size + bcnt l
theorem bcnt_append : ∀ a b : List Vd, bcnt (a ++ b) = bcnt a + bcnt b
  | [], b => by simp [bcnt]
  | v :: a, b => by simp [bcnt, bcnt_append a b, Nat.add_assoc]
theorem bcnt_succ {l : List Vd} {k : Nat} {v : Vd} (h : l[k]? = some v) : bcnt (l.take (k + 1)) = bcnt (l.take k) + v.s.size := by
  rw [List.take_add_one, h, bcnt_append]
  simp [bcnt]
theorem bcnt_bd : ∀ (l : List Vd), (∀ v ∈ l, v.s.size ≤ 100) → bcnt l ≤ 100 * l.length
  | [], _ => by simp [bcnt]
  | v :: l, h => by
    have := bcnt_bd l (fun u hu => h u (by simp [hu]))
    have := h v (by simp)
    simp only [bcnt, List.length_cons]
    omega

set_option maxHeartbeats 1000000 in
theorem refkind (A : Option Addr) (c : Nat) (l : List Vd) (x : Int) (w : World) (hr : Reads w w.heap.size 6 A l.length (vcells l)) (hl : l.length ≤ 1000) :
    Calls Try.prog 54 #[.slice A l.length c, .int .i64 x] w fun e w' => e = .returned (.int .i64 (cnt (fun v => v.k == x) l : Nat)) ∧ w = w' := by
  go_enter Try.func54, Try.ntmps54
  go_wp2_with fail
  go_loop [5, 6] (fun n i => ∃ k : Nat, k ≤ l.length ∧ i = .int .i64 (k : Int) ∧ n = .int .i64 (cnt (fun v => v.k == x) (l.take k) : Nat)) (fun _ i => l.length - (intOf i).toNat)
  case atStart => exact ⟨0, by omega, rfl, rfl⟩
  case round =>
    obtain ⟨k, hk, rfl, rfl⟩ := hrel
    have hcl := cnt_len (fun v => v.k == x) l k
    by_cases hlt : k < l.length
    · have hlti : (k : Int) < (l.length : Int) := by omega
      obtain ⟨ad, v, rfl, had, hv, c0, c1, c2, c3, c4, c5⟩ := VR.at_ hr hlt
      have hs := cnt_succ (fun v => v.k == x) hv
      obtain ⟨n, hn⟩ : ∃ n, cnt (fun v => v.k == x) (l.take k) = n := ⟨_, rfl⟩
      rw [hn] at hs hcl ⊢
      rcases hb : (v.k == x) with _ | _
      · simp only [hb] at hs
        replace hs := Lib.hid hs
        go_wp2_with fail
        go_round
        case rel => exact ⟨k + 1, by omega, by go_num, by rw [hs.out]; simp⟩
        case measure => simp [intOf]; omega
      · simp only [hb] at hs
        replace hs := Lib.hid hs
        go_wp2_with fail
        go_round
        case rel => exact ⟨k + 1, by omega, by go_num, by rw [hs.out]; go_num⟩
        case measure => simp [intOf]; omega
    · have hlti : ¬ (k : Int) < (l.length : Int) := by omega
      rw [List.take_of_length_le (by omega)]
      obtain ⟨n, hn⟩ : ∃ n, cnt (fun v => v.k == x) l = n := ⟨_, rfl⟩
      rw [hn]
      replace hn := Lib.hid hn
      go_wp2_with fail
      go_ret
      exact ⟨by rw [hn.out]; rfl, rfl⟩

set_option maxHeartbeats 1000000 in
theorem refreason (A : Option Addr) (c : Nat) (l : List Vd) (x : Int) (w : World) (hr : Reads w w.heap.size 6 A l.length (vcells l)) (hl : l.length ≤ 1000) :
    Calls Try.prog 56 #[.slice A l.length c, .int .i64 x] w fun e w' => e = .returned (.int .i64 (cnt (fun v => v.e == x) l : Nat)) ∧ w = w' := by
  go_enter Try.func56, Try.ntmps56
  go_wp2_with fail
  go_loop [5, 6] (fun n i => ∃ k : Nat, k ≤ l.length ∧ i = .int .i64 (k : Int) ∧ n = .int .i64 (cnt (fun v => v.e == x) (l.take k) : Nat)) (fun _ i => l.length - (intOf i).toNat)
  case atStart => exact ⟨0, by omega, rfl, rfl⟩
  case round =>
    obtain ⟨k, hk, rfl, rfl⟩ := hrel
    have hcl := cnt_len (fun v => v.e == x) l k
    by_cases hlt : k < l.length
    · have hlti : (k : Int) < (l.length : Int) := by omega
      obtain ⟨ad, v, rfl, had, hv, c0, c1, c2, c3, c4, c5⟩ := VR.at_ hr hlt
      have hs := cnt_succ (fun v => v.e == x) hv
      obtain ⟨n, hn⟩ : ∃ n, cnt (fun v => v.e == x) (l.take k) = n := ⟨_, rfl⟩
      rw [hn] at hs hcl ⊢
      rcases hb : (v.e == x) with _ | _
      · simp only [hb] at hs
        replace hs := Lib.hid hs
        go_wp2_with fail
        go_round
        case rel => exact ⟨k + 1, by omega, by go_num, by rw [hs.out]; simp⟩
        case measure => simp [intOf]; omega
      · simp only [hb] at hs
        replace hs := Lib.hid hs
        go_wp2_with fail
        go_round
        case rel => exact ⟨k + 1, by omega, by go_num, by rw [hs.out]; go_num⟩
        case measure => simp [intOf]; omega
    · have hlti : ¬ (k : Int) < (l.length : Int) := by omega
      rw [List.take_of_length_le (by omega)]
      obtain ⟨n, hn⟩ : ∃ n, cnt (fun v => v.e == x) l = n := ⟨_, rfl⟩
      rw [hn]
      replace hn := Lib.hid hn
      go_wp2_with fail
      go_ret
      exact ⟨by rw [hn.out]; rfl, rfl⟩

set_option maxHeartbeats 1000000 in
theorem reffirsts (A : Option Addr) (c : Nat) (l : List Vd) (w : World) (hr : Reads w w.heap.size 6 A l.length (vcells l)) (hl : l.length ≤ 1000) (hs : ∀ v ∈ l, v.s.size ≤ 100) :
    Calls Try.prog 51 #[.slice A l.length c] w fun e w' => e = .returned (.tuple #[.int .i64 (cnt (fun v => v.f) l : Nat), .int .i64 (bcnt l : Nat)]) ∧ w = w' := by
  go_enter Try.func51, Try.ntmps51
  go_wp2_with fail
  go_loop [4, 5, 6] (fun n m i => ∃ k : Nat, k ≤ l.length ∧ i = .int .i64 (k : Int) ∧ n = .int .i64 (cnt (fun v => v.f) (l.take k) : Nat) ∧ m = .int .i64 (bcnt (l.take k) : Nat)) (fun _ _ i => l.length - (intOf i).toNat)
  case atStart => exact ⟨0, by omega, rfl, rfl, rfl⟩
  case round =>
    obtain ⟨k, hk, rfl, rfl, rfl⟩ := hrel
    have hcl := cnt_len (fun v => v.f) l k
    have hbl := bcnt_bd (l.take k) (fun v hv => hs v (List.mem_of_mem_take hv))
    have hbl2 : (l.take k).length ≤ 1000 := by rw [List.length_take]; omega
    by_cases hlt : k < l.length
    · have hlti : (k : Int) < (l.length : Int) := by omega
      obtain ⟨ad, v, rfl, had, hv, c0, c1, c2, c3, c4, c5⟩ := VR.at_ hr hlt
      have h1 := cnt_succ (fun v => v.f) hv
      have h2 := bcnt_succ hv
      have hvs := hs v (List.mem_of_getElem? hv)
      obtain ⟨n, hn⟩ : ∃ n, cnt (fun v => v.f) (l.take k) = n := ⟨_, rfl⟩
      obtain ⟨m, hm⟩ : ∃ n, bcnt (l.take k) = n := ⟨_, rfl⟩
      rw [hn] at h1 hcl ⊢
      rw [hm] at h2 hbl ⊢
      have hm2 : m ≤ 100000 := by omega
      clear hbl hbl2
      rcases hb : v.f with _ | _
      · simp only [hb] at h1
        rw [hb] at c4
        replace h1 := Lib.hid h1
        replace h2 := Lib.hid h2
        go_wp2_with fail
        go_round
        case rel => exact ⟨k + 1, by omega, by go_num, by rw [h1.out]; simp, by rw [h2.out]; go_num⟩
        case measure => simp [intOf]; omega
      · simp only [hb] at h1
        rw [hb] at c4
        replace h1 := Lib.hid h1
        replace h2 := Lib.hid h2
        go_wp2_with fail
        go_round
        case rel => exact ⟨k + 1, by omega, by go_num, by rw [h1.out]; go_num, by rw [h2.out]; go_num⟩
        case measure => simp [intOf]; omega
    · have hlti : ¬ (k : Int) < (l.length : Int) := by omega
      rw [List.take_of_length_le (by omega)]
      obtain ⟨n, hn⟩ : ∃ n, cnt (fun v => v.f) l = n := ⟨_, rfl⟩
      obtain ⟨m, hm⟩ : ∃ n, bcnt l = n := ⟨_, rfl⟩
      rw [hn, hm]
      replace hn := Lib.hid hn
      replace hm := Lib.hid hm
      go_wp2_with fail
      go_ret2
      exact ⟨by rw [hn.out, hm.out]; rfl, rfl⟩

def gTo (F : Int → Int) (k : Nat) : List Int := ((List.range k).map fun j => ((j : Nat) : Int) + 1).filter fun e => decide (0 < F e)
theorem gTo_succ (F : Int → Int) (k : Nat) : gTo F (k + 1) = gTo F k ++ if 0 < F ((k : Int) + 1) then [(k : Int) + 1] else [] := by
  unfold gTo
  rw [List.range_succ, List.map_append, List.filter_append]
  congr 1
  simp only [List.map_cons, List.map_nil, List.filter_cons, List.filter_nil, decide_eq_true_eq]
theorem gTo_len (F : Int → Int) (k : Nat) : (gTo F k).length ≤ k := by
  have := List.length_filter_le (fun e => decide (0 < F e)) ((List.range k).map fun j => ((j : Nat) : Int) + 1)
  simpa [gTo] using this
def RC (l : List Vd) (e : Int) : Int := (cnt (fun v => v.e == e) l : Nat)

set_option maxHeartbeats 1000000 in
theorem refreasons (A0 : Option Addr) (c0 : Nat) (l : List Vd) (w : World) (hr : Reads w w.heap.size 6 A0 l.length (vcells l)) (hl : l.length ≤ 1000) :
    Calls Try.prog 59 #[.slice A0 l.length c0] w fun e w' => ∃ A c, e = .returned (.slice A (gTo (RC l) 16).length c) ∧ w'.ownsRow w.heap.size 3 1 (.slice A (gTo (RC l) 16).length c) (gTo (RC l) 16).length ((gTo (RC l) 16).map (.int .i64)) ∧ Below w.heap.size w w' := by
  obtain ⟨i0, hi0, hz0, hz1, hz2⟩ := info_parts info_int
  go_enter Try.func59, Try.ntmps59
  go_wp2_with fail
  go_loopw [3, 4] (fun s i wr => ∃ (k : Nat) (A : Option Addr) (c : Nat), k ≤ 16 ∧ i = .int .i64 ((k : Int) + 1) ∧ s = .slice A (gTo (RC l) k).length c ∧ wr.ownsRow w.heap.size 3 1 (.slice A (gTo (RC l) k).length c) (gTo (RC l) k).length ((gTo (RC l) k).map (.int .i64)) ∧ Below w.heap.size w wr) (fun _ i _ => 17 - (intOf i).toNat)
  case atStart => exact ⟨0, none, 0, by omega, rfl, rfl, World.ownsRow_nil _ _ _ _, Below.refl _ _⟩
  case round =>
    obtain ⟨k, A, c, hk, rfl, rfl, hown, hbw⟩ := hrel
    have hlen := gTo_len (RC l) k
    obtain ⟨n, hn⟩ : ∃ n, n = (gTo (RC l) k).length := ⟨_, rfl⟩
    rw [← hn] at hown hlen ⊢
    by_cases hlt : k < 16
    · obtain ⟨y, hy⟩ : ∃ y, cnt (fun v => v.e == (k : Int) + 1) l = y := ⟨_, rfl⟩
      have hbz := hbw.size
      have D := refreason A0 c0 l ((k : Int) + 1) wr ((hr.below hbw).more hbz) hl
      rw [hy] at D
      have hki : (k : Int) + 1 ≤ 16 := by omega
      have hyR : RC l ((k : Int) + 1) = (y : Int) := by unfold RC; rw [hy]
      by_cases hp : 0 < y
      · have hb : decide (0 < y) = true := by simp [hp]
        have hbl := hown.alloc (.cells #[.int .i64 ((k : Int) + 1)] 3)
        have e1 : gTo (RC l) (k + 1) = gTo (RC l) k ++ [(k : Int) + 1] := by rw [gTo_succ, hyR, if_pos (by omega)]
        replace e1 := Lib.hid e1
        replace hy := Lib.hid hy
        replace hyR := Lib.hid hyR
        replace hn := Lib.hid hn
        replace D := Lib.hid D
        go_wp2_with (first
          | (go_at_call 56; refine D.out.mono ?_; rintro e w' ⟨rfl, rfl⟩)
          | (at_builtin; refine wpList_append_sl _ rfl (.tmp 13) (.tmp 15) 22 rfl w.heap.size 3 i0 _ 1 8 Try.underlying22 hi0 hz0 hz1 hz2 rfl (by decide) (.slice A n c) n ((gTo (RC l) k).map (.int .i64)) rfl hbl (wr.heap.size + 1) (some ⟨wr.heap.size, 0, none⟩) 1 1 [.int .i64 ((k : Int) + 1)] rfl (reads_lit1 _ _ _ _ _ (by simp) (by simp)) (by simp [Value.oneCell']) (by unfold maxLen; omega) (by omega) (by simp; omega) ?_; intro A1 cp1 w1 hown2 hg1 hat1))
        have hz1 := hg1.size
        rw [World.size_alloc] at hz1
        go_roundw
        case rel =>
          have hb2 : Below w.heap.size w w1 := ((hbw.alloc (by omega) _).grown hg1 (by simp; omega) (fun j hj => by have := (hown.lt _ hj).1; omega))
          have hl2 : (gTo (RC l) (k + 1)).length = n + 1 := by rw [e1.out, hn.out]; simp
          exact ⟨k + 1, A1, cp1, by omega, by go_num, by rw [hl2], by rw [hl2, e1.out, List.map_append]; exact hown2, hb2⟩
        case measure => simp [intOf]; omega
      · have hb : decide (0 < y) = false := by simp; omega
        have e1 : gTo (RC l) (k + 1) = gTo (RC l) k := by rw [gTo_succ, hyR, if_neg (by omega), List.append_nil]
        clear hp
        replace e1 := Lib.hid e1
        replace hy := Lib.hid hy
        replace hyR := Lib.hid hyR
        replace hn := Lib.hid hn
        replace D := Lib.hid D
        go_wp2_with (go_at_call 56; refine D.out.mono ?_; rintro e w' ⟨rfl, rfl⟩)
        go_roundw
        case rel => exact ⟨k + 1, A, c, by omega, by go_num, by rw [e1.out, ← hn.out], by rw [e1.out, ← hn.out]; exact hown, hbw⟩
        case measure => simp [intOf]; omega
    · have hki : ¬ (k : Int) + 1 ≤ 16 := by omega
      obtain rfl : k = 16 := by omega
      replace hn := Lib.hid hn
      go_wp2_with fail
      go_ret
      rw [← hn.out]
      exact ⟨_, _, rfl, hown, hbw⟩
end Go.Proofs.Ytdkcjfcjckpjcaa
