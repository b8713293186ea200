/- cloakroomlaw16: awake, StackPlays, StackOnce. -/
import Derived.Test.YtdkcjfcjckpjcaaStackB
import Derived.Deep.RegionHeld3
namespace Go.Proofs.Ytdkcjfcjckpjcaa
open Go Go.RowKit Go.Deep

set_option maxRecDepth 100000 in
set_option maxHeartbeats 1000000 in
theorem awake16 (w : World) : Calls Try.prog 18 #[] w fun e w' => e = .returned (.bool true) ∧ Below w.heap.size w w' := by
  go_enter Try.func18, Try.ntmps18
  go_wp2_with fail
  refine (new_yes 2 w (by omega)).mono ?_
  rintro e w1 ⟨g, F, rfl, hS, hb, hF⟩
  have e0 : upto 2 0 = [0, 1] := by decide
  rw [e0] at hS
  clear e0
  go_wp2_with fail
  refine (pop_any g 2 [0, 1] F w1 hS).mono ?_
  rintro e w2 ⟨rfl, hS2, hc2⟩
  replace hb := below_chg hb hc2 (fun b h e => by have := hF b e; omega) hb.size
  clear hc2 hS
  go_wp2_with fail
  refine (pop_any g 2 [1] F w2 hS2).mono ?_
  rintro e w3 ⟨rfl, hS3, hc3⟩
  replace hb := below_chg hb hc3 (fun b h e => by have := hF b e; omega) hb.size
  clear hc3 hS2
  go_wp2_with fail
  refine (push_yes g 2 [] F 0 w3 hS3 (by omega) (by omega) (by simp)).mono ?_
  rintro e w4 ⟨rfl, F4, hS4, hc4, hF4⟩
  have hsz := hb.size
  replace hb := below_chg hb hc4 (fun b h e => by have := hF b e; omega) hb.size
  replace hF : ∀ b, F4 b → w.heap.size ≤ b := fun b h => by
    rcases hF4 b h with h | h
    · exact hF b h
    · omega
  clear hc4 hS3 hF4 hsz
  go_wp2_with fail
  refine (pop_any g 2 [0] F4 w4 hS4).mono ?_
  rintro e w5 ⟨rfl, hS5, hc5⟩
  replace hb := below_chg hb hc5 (fun b h e => by have := hF b e; omega) hb.size
  clear hc5 hS4
  have heq := fun (A : Option Addr) (n c : Nat) (W : World) => Lib.run_eql_slice_nil (P := Try.prog) W 22 3 A n c 0 0 Try.underlying22
  have hsz := hb.size
  go_wp2
  go_ret
  exact ⟨rfl, (by repeat (first | exact Below.refl _ _ | assumption | refine below_call2 (by assumption) ?_ (by first | omega | (simp; done) | (simp; omega) | (simp [World.setCell]; omega)) | refine below_drewN ?_ _ | refine Below.drew ?_ | refine Below.alloc ?_ (by first | omega | (simp; done) | (simp; omega) | (simp [World.setCell]; omega)) _ | refine Below.setCell ?_ (by first | omega | (simp; done) | (simp; omega) | (simp [World.setCell]; omega)) _))⟩
def pushL (N : Nat) (l : List Int) (i : Int) : List Int := if pushOk N l i then i :: l else l
theorem push_any (g N : Nat) (l : List Int) (F : Nat → Prop) (i : Int) (w : World) (h : StackP w g N l F) :
    Calls Try.prog 23 #[.pointer (some ⟨g, 0, none⟩), .int .i64 i] w fun e w' => e = .returned (.bool (pushOk N l i)) ∧ ∃ F', StackP w' g N (pushL N l i) F' ∧ Chg F w w' ∧ ∀ b, F' b → F b ∨ w.heap.size ≤ b := by
  by_cases hi : 0 ≤ i ∧ i < N ∧ i ∉ l
  · have e : pushOk N l i = true := by simp [pushOk, hi, inB]
    have e2 : pushL N l i = i :: l := by simp [pushL, e]
    rw [e, e2]
    exact push_yes g N l F i w h hi.1 hi.2.1 hi.2.2
  · have hn : i < 0 ∨ N ≤ i ∨ i ∈ l := by
      by_cases h1 : i ∈ l
      · exact .inr (.inr h1)
      · by_cases h2 : i < 0
        · exact .inl h2
        · refine .inr (.inl ?_)
          rcases Int.lt_or_le i N with h3 | h3
          · exact absurd ⟨by omega, h3, h1⟩ hi
          · exact h3
    have e : pushOk N l i = false := by
      rcases hn with h | h | h
      · simp [pushOk]; omega
      · simp [pushOk]; omega
      · simp [pushOk, inB, h]
    have e2 : pushL N l i = l := by simp [pushL, e]
    rw [e, e2]
    refine (push_no g N l F i w h hn).mono ?_
    rintro e w' ⟨rfl, rfl⟩
    exact ⟨rfl, F, h, Chg.refl _ _, fun b hb => .inl hb⟩
theorem refpush_any (g N : Nat) (l : List Int) (F : Nat → Prop) (i : Int) (w : World) (h : RefP w g N l F) (hl : l.length ≤ 1000000) :
    Calls Try.prog 24 #[.pointer (some ⟨g, 0, none⟩), .int .i64 i] w fun e w' => e = .returned (.bool (pushOk N l i)) ∧ ∃ F', RefP w' g N (pushL N l i) F' ∧ Chg F w w' ∧ ∀ b, F' b → F b ∨ w.heap.size ≤ b := by
  by_cases hi : 0 ≤ i ∧ i < N ∧ i ∉ l
  · have e : pushOk N l i = true := by simp [pushOk, hi, inB]
    have e2 : pushL N l i = i :: l := by simp [pushL, e]
    rw [e, e2]
    exact refpush_yes g N l F i w h hl hi.1 hi.2.1 hi.2.2
  · have hn : i < 0 ∨ N ≤ i ∨ i ∈ l := by
      by_cases h1 : i ∈ l
      · exact .inr (.inr h1)
      · by_cases h2 : i < 0
        · exact .inl h2
        · refine .inr (.inl ?_)
          rcases Int.lt_or_le i N with h3 | h3
          · exact absurd ⟨by omega, h3, h1⟩ hi
          · exact h3
    have e : pushOk N l i = false := by
      rcases hn with h | h | h
      · simp [pushOk]; omega
      · simp [pushOk]; omega
      · simp [pushOk, inB, h]
    have e2 : pushL N l i = l := by simp [pushL, e]
    rw [e, e2]
    refine (refpush_no g N l F i w h hl hn).mono ?_
    rintro e w' ⟨rfl, rfl⟩
    exact ⟨rfl, F, h, Chg.refl _ _, fun b hb => .inl hb⟩

/-- Both stacks with the same numbers, in different blocks, all from B on. -/
def Two (w : World) (B g1 g2 N : Nat) (l : List Int) : Prop :=
  ∃ F1 F2, StackP w g1 N l F1 ∧ RefP w g2 N l F2 ∧ (∀ b, F1 b → ¬ F2 b) ∧ (∀ b, F1 b → B ≤ b) ∧ (∀ b, F2 b → B ≤ b)

set_option maxRecDepth 100000 in
set_option maxHeartbeats 2000000 in
theorem stackPlays_calls (n : Int) (A : Option Addr) (c : Nat) (l : List Int) (w : World) (hr : Reads w w.heap.size 1 A l.length (l.map (.int .i64))) (hm : l.length ≤ 9223372036854775807) :
    Calls Try.prog 4 #[.int .i64 n, .slice A l.length c] w fun e w' => e = .returned (.bool true) ∧ Below w.heap.size w w' := by
  by_cases hg1 : 30 < n ∧ n ≤ 4096
  · obtain ⟨h1, h2⟩ := hg1
    go_enter Try.func4, Try.ntmps4
    go_wp2_with (go_at_call 18; refine (awake16 _).mono ?_; rintro e w1 ⟨rfl, hb1⟩)
    go_ret
    exact ⟨rfl, hb1⟩
  by_cases hlen : 60 < l.length
  · have h : (60 : Int) < (l.length : Int) := by omega
    have hd : (decide (30 < n) && decide (n ≤ 4096)) = false := by
      rw [Bool.and_eq_false_iff]; simp; omega
    go_enter Try.func4, Try.ntmps4
    go_wp2_with (go_at_call 18; refine (awake16 _).mono ?_; rintro e w1 ⟨rfl, hb1⟩)
    all_goals (go_ret; exact ⟨rfl, hb1⟩)
  have hl60 : ¬ (60 : Int) < (l.length : Int) := by omega
  by_cases hn : n < 0 ∨ 4096 < n
  · have hd : n ≤ 30 ∨ (30 < n ∧ 4096 < n) := by omega
    clear hg1 hlen
    rcases hd with hd | ⟨hd, hd2⟩
    · go_enter Try.func4, Try.ntmps4
      go_wp2_with (first | (go_at_call 19; refine (new_no n _ hn).mono ?_; rintro e w1 ⟨rfl, rfl⟩) | (go_at_call 20; refine (refnew_no n _ hn).mono ?_; rintro e w1 ⟨rfl, rfl⟩))
      refine wp_loop_rounds 1 ?_
      rw [rounds_succ]
      go_wp2_with (go_at_call 18; refine (awake16 _).mono ?_; rintro e w1 ⟨rfl, hb1⟩)
      all_goals (go_ret; exact ⟨rfl, hb1⟩)
    · go_enter Try.func4, Try.ntmps4
      go_wp2_with (first | (go_at_call 19; refine (new_no n _ hn).mono ?_; rintro e w1 ⟨rfl, rfl⟩) | (go_at_call 20; refine (refnew_no n _ hn).mono ?_; rintro e w1 ⟨rfl, rfl⟩))
      refine wp_loop_rounds 1 ?_
      rw [rounds_succ]
      go_wp2_with (go_at_call 18; refine (awake16 _).mono ?_; rintro e w1 ⟨rfl, hb1⟩)
      all_goals (go_ret; exact ⟨rfl, hb1⟩)
  · obtain ⟨N, rfl⟩ : ∃ N : Nat, n = N := ⟨n.toNat, by omega⟩
    have hd : (N : Int) ≤ 30 := by omega
    have hN : N ≤ 4096 := by omega
    clear hg1 hlen hn
    go_enter Try.func4, Try.ntmps4
    go_wp2_with fail
    refine (new_yes N w hN).mono ?_
    rintro e w1 ⟨g1, F1, rfl, hS, hb, hF1⟩
    go_wp2_with fail
    refine (refnew_yes N w1 hN).mono ?_
    rintro e w2 ⟨g2, F2, rfl, hR, hb2, hF2⟩
    have hsz := hb.size
    have hT : Two w2 w.heap.size g1 g2 N (seqTo N) := by
      rw [← upto_zero] at hR ⊢
      exact ⟨F1, F2, hS.chg (Chg.of_below hb2 (F := fun _ => False)) (fun _ _ h => h), hR, fun b h1 h2 => by have := hS.lt h1; have := hF2 b h2; omega, hF1, fun b h => by have := hF2 b h; omega⟩
    replace hb := below_call hb hb.size hb2
    clear hS hR hb2 hF1 hF2 hsz
    go_wp2_with fail
    have hrw := hr.below hb
    clear hr
    go_loopw [7] (fun i wr => ∃ k ls, k ≤ l.length ∧ i = .int .i64 (k : Nat) ∧ Two wr w.heap.size g1 g2 N ls ∧ Below w.heap.size w2 wr) (fun i _ => l.length - (intOf i).toNat)
    case atStart => exact ⟨0, _, Nat.zero_le _, rfl, hT, Below.refl _ _⟩
    case round =>
      obtain ⟨k, ls, hk, rfl, ⟨F1, F2, hS, hR, hdis, hF1, hF2⟩, hbw⟩ := hrel
      clear hT
      by_cases hlt : k < l.length
      · obtain ⟨ad, rfl, had, hc⟩ := (hrw.below hbw).int_at hlt
        obtain ⟨x, hx⟩ : ∃ x, x = l.getD k 0 := ⟨_, rfl⟩
        rw [← hx] at hc
        clear hx
        have hlti : ((k : Int)) < (l.length : Int) := by omega
        have hsl : ls.length ≤ 4096 := by
          obtain ⟨_, _, _, _, _, _, h5, h6, h7⟩ := hS
          exact Nat.le_trans (nodup_len ls N h5 h6) h7
        have hsz := hb.size
        have hsz2 := hbw.size
        by_cases hneg : x < 0
        · go_wp2_with fail
          refine (pop_any g1 N ls F1 wr hS).mono ?_
          rintro e w3 ⟨rfl, hS3, hc3⟩
          go_wp2_with fail
          refine (refpop g2 N ls F2 w3 (hR.chg hc3 (fun b h1 h2 => hdis b h2 h1)) (by omega)).mono ?_
          rintro e w4 ⟨rfl, hR4, hc4⟩
          have hS4 := hS3.chg hc4 hdis
          have hcell : w4.cell? (ad.add k) = some (.int .i64 x) := by
            rw [World.cell?_of_block (w := w3) (hc4.block (by rw [block_of_add]; have := hc3.size; omega) (fun e => by rw [block_of_add] at e; have := hF2 _ e; omega)), World.cell?_of_block (w := wr) (hc3.block (by rw [block_of_add]; omega) (fun e => by rw [block_of_add] at e; have := hF1 _ e; omega))]
            exact hc
          have hbw4 : Below w.heap.size w2 w4 := below_chg (below_chg hbw hc3 (fun b h e => by have := hF1 b e; omega) (by omega)) hc4 (fun b h e => by have := hF2 b e; omega) (by have := hc3.size; omega)
          have hT4 : Two w4 w.heap.size g1 g2 N ls.tail := ⟨F1, F2, hS4, hR4, hdis, hF1, hF2⟩
          clear hS hR hS3 hc3 hc4 hc
          go_wp2_with fail
          obtain ⟨F1', F2', hS, hR, hdis', hF1', hF2'⟩ := hT4
          obtain ⟨A2, c2, hB2, hRd2, hF2e, hA2, hc2⟩ := hR
          have hR : RefP w4 g2 N ls.tail F2' := ⟨A2, c2, hB2, hRd2, hF2e, hA2, hc2⟩
          have hcx := hB2.cell 1
          simp only [List.getElem?_toArray, List.getElem?_cons_succ, List.getElem?_cons_zero] at hcx
          have hsl4 : (ls.tail).length ≤ 4096 := by
            obtain ⟨_, _, _, _, _, _, h5, h6, h7⟩ := hS
            exact Nat.le_trans (nodup_len _ N h5 h6) h7
          have hsz4 := hbw4.size
          have hself : sameL (ls.tail) (ls.tail) = true := by simp [sameL]
          obtain ⟨L, hL⟩ : ∃ L, L = ls.tail := ⟨_, rfl⟩
          rw [← hL] at hS hR hRd2 hc2 hcx hsl4 hself
          clear hB2 hL
          go_region_held3 (fun w' => w'.cell? (ad.add k) = some (.int .i64 x) ∧ w'.cell? ⟨g2, 1, none⟩ = some (.slice A2 L.length c2)) (go_keep) (first
            | (go_at_call 25; refine (free_any g1 N L F1' _ (by exact hS)).mono ?_; rintro e w' ⟨rfl, rfl⟩)
            | (go_at_call 26; refine (has_stack g1 N L F1' x _ (by exact hS)).mono ?_; rintro e w' ⟨rfl, rfl⟩)
            | (go_at_call 27; refine (refhas g2 N L F2' x _ (by exact hR) (by omega)).mono ?_; rintro e w' ⟨rfl, rfl⟩)
            | (go_at_call 29; refine (list_any g1 N L F1' _ (by exact hS)).mono ?_; rintro e w5 ⟨A5, c5, rfl, hR5, hb5⟩; have hk1 := hb5.cell (p := ad.add k) (by rw [block_of_add]; simp; omega); have hk2 := hb5.cell (p := ⟨g2, 1, none⟩) (by exact hR.lt ((hF2e g2).2 (.inl rfl))); have hRd5 := ((hRd2.drewN 1).below hb5).more hb5.size)
            | (go_at_call 28; refine (sameInts_any A5 A2 c5 c2 L L _ w5.heap.size hR5 hRd5 (by omega) (by omega)).mono ?_; rintro e w' ⟨rfl, m6, rfl⟩))
          go_wp2_with fail
          have hC : Chg (fun _ => False) w4 w5 := Chg.undrew (Chg.of_below hb5)
          have hsz5 := hb5.size
          simp at hsz5
          go_roundw
          case rel =>
            exact ⟨k + 1, L, by omega, by go_num, ⟨F1', F2', hS.chg (hC.drewN m6) (fun _ _ h => h), hR.chg (hC.drewN m6) (fun _ _ h => h), hdis', hF1', hF2'⟩, below_drewN (below_chg hbw4 hC (fun _ _ h => h) (by omega)) m6⟩
          case measure => simp [intOf]; omega
        · have hneg' : 0 ≤ x := by omega
          go_wp2_with fail
          go_region_held3 (fun w' => w'.cell? (ad.add k) = some (.int .i64 x)) (go_keep) (first
            | (go_at_call 23; refine (push_any g1 N ls F1 x _ (by exact hS)).mono ?_; rintro e w3 ⟨rfl, F3, hS3, hc3, hF3⟩; have hk3 : w3.cell? (ad.add k) = some (.int .i64 x) := (cell_chg hc3 (by rw [block_of_add]; simp; omega) (fun e => by rw [block_of_add] at e; have := hF1 _ e; omega)).trans hc)
            | (go_at_call 24; refine (refpush_any g2 N ls F2 x _ (by exact hR.chg hc3 (fun b h1 h2 => hdis b h2 h1)) (by omega)).mono ?_; rintro e w4 ⟨rfl, F4, hR4, hc4, hF4⟩; have hk4 : w4.cell? (ad.add k) = some (.int .i64 x) := (cell_chg hc4 (by rw [block_of_add]; have := hc3.size; simp at this ⊢; omega) (fun e => by rw [block_of_add] at e; have := hF2 _ e; omega)).trans hk3))
          replace hc3 := Chg.undrew hc3
          have hz3 := hc3.size
          have hS4 := hS3.chg hc4 (fun b h e => by
            rcases hF3 b h with h | h
            · exact hdis b h e
            · have := hR.lt e; simp at h; omega)
          have hF3w : ∀ b, F3 b → w.heap.size ≤ b := fun b h => by
            rcases hF3 b h with h | h
            · exact hF1 b h
            · simp at h; omega
          have hF4w : ∀ b, F4 b → w.heap.size ≤ b := fun b h => by
            rcases hF4 b h with h | h
            · exact hF2 b h
            · omega
          have hbw4 : Below w.heap.size w2 w4 := below_chg (below_chg hbw hc3 (fun b h e => by have := hF1 b e; omega) (by omega)) hc4 (fun b h e => by have := hF2 b e; omega) (by omega)
          have hT4 : Two w4 w.heap.size g1 g2 N (pushL N ls x) := ⟨F3, F4, hS4, hR4, fun b h1 h2 => by
            rcases hF3 b h1 with h1 | h1 <;> rcases hF4 b h2 with h2 | h2
            · exact hdis b h1 h2
            · have := hS.lt h1; omega
            · have := hR.lt h2; simp at h1; omega
            · have := hS3.lt (b := b) (by assumption); omega, hF3w, hF4w⟩
          clear hS hR hS3 hc3 hc4 hc hk3
          go_wp2_with fail
          obtain ⟨F1', F2', hS, hR, hdis', hF1', hF2'⟩ := hT4
          obtain ⟨A2, c2, hB2, hRd2, hF2e, hA2, hc2⟩ := hR
          have hR : RefP w4 g2 N (pushL N ls x) F2' := ⟨A2, c2, hB2, hRd2, hF2e, hA2, hc2⟩
          have hcx := hB2.cell 1
          simp only [List.getElem?_toArray, List.getElem?_cons_succ, List.getElem?_cons_zero] at hcx
          have hsl4 : ((pushL N ls x)).length ≤ 4096 := by
            obtain ⟨_, _, _, _, _, _, h5, h6, h7⟩ := hS
            exact Nat.le_trans (nodup_len _ N h5 h6) h7
          have hsz4 := hbw4.size
          have hself : sameL ((pushL N ls x)) ((pushL N ls x)) = true := by simp [sameL]
          obtain ⟨L, hL⟩ : ∃ L, L = (pushL N ls x) := ⟨_, rfl⟩
          rw [← hL] at hS hR hRd2 hc2 hcx hsl4 hself
          clear hB2 hL
          go_region_held3 (fun w' => w'.cell? (ad.add k) = some (.int .i64 x) ∧ w'.cell? ⟨g2, 1, none⟩ = some (.slice A2 L.length c2)) (go_keep) (first
            | (go_at_call 25; refine (free_any g1 N L F1' _ (by exact hS)).mono ?_; rintro e w' ⟨rfl, rfl⟩)
            | (go_at_call 26; refine (has_stack g1 N L F1' x _ (by exact hS)).mono ?_; rintro e w' ⟨rfl, rfl⟩)
            | (go_at_call 27; refine (refhas g2 N L F2' x _ (by exact hR) (by omega)).mono ?_; rintro e w' ⟨rfl, rfl⟩)
            | (go_at_call 29; refine (list_any g1 N L F1' _ (by exact hS)).mono ?_; rintro e w5 ⟨A5, c5, rfl, hR5, hb5⟩; have hk1 := hb5.cell (p := ad.add k) (by rw [block_of_add]; simp; omega); have hk2 := hb5.cell (p := ⟨g2, 1, none⟩) (by exact hR.lt ((hF2e g2).2 (.inl rfl))); have hRd5 := ((hRd2.drewN 1).below hb5).more hb5.size)
            | (go_at_call 28; refine (sameInts_any A5 A2 c5 c2 L L _ w5.heap.size hR5 hRd5 (by omega) (by omega)).mono ?_; rintro e w' ⟨rfl, m6, rfl⟩))
          go_wp2_with fail
          have hC : Chg (fun _ => False) w4 w5 := Chg.undrew (Chg.of_below hb5)
          have hsz5 := hb5.size
          simp at hsz5
          go_roundw
          case rel =>
            exact ⟨k + 1, L, by omega, by go_num, ⟨F1', F2', hS.chg (hC.drewN m6) (fun _ _ h => h), hR.chg (hC.drewN m6) (fun _ _ h => h), hdis', hF1', hF2'⟩, below_drewN (below_chg hbw4 hC (fun _ _ h => h) (by omega)) m6⟩
          case measure => simp [intOf]; omega
      · go_wp2_with (go_at_call 18; refine (awake16 _).mono ?_; rintro e w1 ⟨rfl, hb1⟩)
        go_ret
        have := hb.size
        exact ⟨rfl, below_call2 hb1 (hb.trans hbw) (by have := hbw.size; omega)⟩
end Go.Proofs.Ytdkcjfcjckpjcaa
