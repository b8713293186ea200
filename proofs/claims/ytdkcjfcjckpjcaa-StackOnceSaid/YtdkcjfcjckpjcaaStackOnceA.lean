/- cloakroomlaw16.StackOnce: its contract. -/
import Derived.Test.YtdkcjfcjckpjcaaStackC
import Derived.Deep.DeepCutAuto
namespace Go.Proofs.Ytdkcjfcjckpjcaa
open Go Go.RowKit Go.Deep

def Once (w : World) (B go g N : Nat) (l : List Int) : Prop :=
  ∃ F, StackP w g N l F ∧ w.rowIs go 4 N (fun j => .bool (!inB l j)) ∧ ¬ F go ∧ (∀ b, F b → B ≤ b) ∧ B ≤ go

/-- How many of the first k numbers are on the list. -/
def cnt (l : List Int) (k : Nat) : Nat := ((List.range k).filter (fun j : Nat => inB l j)).length
theorem cnt_succ (l : List Int) (k : Nat) : cnt l (k + 1) = cnt l k + (if inB l k then 1 else 0) := by
  unfold cnt
  rw [List.range_succ, List.filter_append]
  by_cases h : inB l k = true
  · simp [h]
  · simp [h]
theorem cnt_le (l : List Int) (k : Nat) : cnt l k ≤ k := by
  unfold cnt
  have := List.length_filter_le (fun j : Nat => inB l j) (List.range k)
  simpa using this
theorem cnt_all (l : List Int) (N : Nat) (h : l.Nodup) (h6 : ∀ x ∈ l, 0 ≤ x ∧ x < N) : cnt l N = l.length := by
  have hnd : (((List.range N).filter (fun j : Nat => inB l j)).map (fun n : Nat => (n : Int))).Nodup := by
    refine List.Pairwise.map _ (fun a b hab => ?_) ((List.nodup_range).filter _)
    intro e; exact hab (by omega)
  have h1 : ((List.range N).filter (fun j : Nat => inB l j)).map (fun n : Nat => (n : Int)) ⊆ l := by
    intro x hx
    obtain ⟨j, hj, rfl⟩ := List.mem_map.1 hx
    have := (List.mem_filter.1 hj).2
    simpa [inB] using this
  have h2 : l ⊆ ((List.range N).filter (fun j : Nat => inB l j)).map (fun n : Nat => (n : Int)) := by
    intro x hx
    have := h6 x hx
    refine List.mem_map.2 ⟨x.toNat, List.mem_filter.2 ⟨by simp; omega, ?_⟩, by omega⟩
    have e : ((x.toNat : Nat) : Int) = x := by omega
    rw [e]
    exact inB_yes hx
  have a := List.Nodup.length_le_of_subset hnd h1
  have b := List.Nodup.length_le_of_subset h h2
  simp only [List.length_map] at a b
  unfold cnt
  omega

set_option maxRecDepth 100000 in
set_option maxHeartbeats 2000000 in
theorem stackOnce_calls (n : Int) (hn0 : 0 ≤ n) (hn1 : n ≤ 255) (A : Option Addr) (c : Nat) (l : List Int) (w : World) (hr : Reads w w.heap.size 1 A l.length (l.map (.int .i64))) (hm : l.length ≤ 9223372036854775807) :
    Calls Try.prog 5 #[.int .u8 n, .slice A l.length c] w fun e w' => e = .returned (.bool true) ∧ Below w.heap.size w w' := by
  by_cases hlen : 60 < l.length
  · have h : (60 : Int) < (l.length : Int) := by omega
    go_enter Try.func5, Try.ntmps5
    go_wp2_with (go_at_call 18; refine (awake16 _).mono ?_; rintro e w1 ⟨rfl, hb1⟩)
    go_ret
    exact ⟨rfl, hb1⟩
  have hl60 : ¬ (60 : Int) < (l.length : Int) := by omega
  clear hlen
  obtain ⟨N, hN⟩ : ∃ N : Nat, n % 31 = N := ⟨(n % 31).toNat, by omega⟩
  have hN30 : N ≤ 30 := by omega
  have hmk := fun W => run_make_row' (P := Try.prog) 39 4 (.bool false) 1 Try.underlying39 info_bool rfl .i64 .i64 N (by omega) (by omega) W
  go_enter Try.func5, Try.ntmps5
  go_wp2_with fail
  clear hN
  refine (new_yes N w (by omega)).mono ?_
  rintro e w1 ⟨g, F, rfl, hS, hb, hF⟩
  go_wp2_with fail
  clear hmk
  have hrw := hr.below (hb.alloc hb.size (.cells (madeCells #[.bool false] N) 4))
  have hO : Once (w1.alloc (.cells (madeCells #[.bool false] N) 4)) w.heap.size w1.heap.size g N (upto N 0) := by
    refine ⟨F, hS.chg ((Chg.refl (fun _ => False) w1).alloc _) (fun _ _ h => h), (World.rowIs_made w1 (.bool false) N 4).congr (fun j hj => ?_), fun h => by have := hS.lt h; omega, hF, hb.size⟩
    rw [inB_yes]
    · rfl
    · exact List.mem_map.2 ⟨j, by simp; omega, by simp⟩
  replace hb := hb.alloc hb.size (.cells (madeCells #[.bool false] N) 4)
  have hsz : w.heap.size < (w1.alloc (.cells (madeCells #[.bool false] N) 4)).heap.size := by have := hO; obtain ⟨_, _, h, _, _, h5⟩ := this; have := h.lt; omega
  generalize w1.alloc (.cells (madeCells #[.bool false] N) 4) = w2 at hrw hO hb hsz ⊢
  generalize w1.heap.size = go at hO ⊢
  clear hS hF hr
  go_loopw [8] (fun i wr => ∃ k ls, k ≤ l.length ∧ i = .int .i64 (k : Nat) ∧ Once wr w.heap.size go g N ls ∧ Below w.heap.size w2 wr) (fun i _ => l.length - (intOf i).toNat)
  case atStart => exact ⟨0, _, Nat.zero_le _, rfl, hO, Below.refl _ _⟩
  case round =>
    clear hO
    obtain ⟨k, ls, hk, rfl, hO, hbw⟩ := hrel
    have hsz2 := hbw.size
    by_cases hlt : k < l.length
    · obtain ⟨ad, rfl, had, hc⟩ := (hrw.below hbw).int_at hlt
      obtain ⟨x, hx⟩ : ∃ x, x = l.getD k 0 := ⟨_, rfl⟩
      rw [← hx] at hc
      clear hx
      have hlti : ((k : Int)) < (l.length : Int) := by omega
      obtain ⟨F, hS, hrow, hno, hF, hgo⟩ := hO
      go_upto_if 37 with (fail)
      go_cut [] (fun wx => ∃ ls', Once wx w.heap.size go g N ls' ∧ Below w.heap.size w2 wx)
      case first =>
        by_cases hneg : x < 0
        · go_wp2_with fail
          refine (pop_any g N ls F wr hS).mono ?_
          rintro e w3 ⟨rfl, hS3, hc3⟩
          have hrow3 := rowIs_chg hrow hc3 hno
          have hb3 : Below w.heap.size w2 w3 := below_chg hbw hc3 (fun b h e => by have := hF b e; omega) (by omega)
          cases ls with
          | nil =>
            go_wp2_with fail
            go_meet
            exact ⟨[], ⟨F, hS3, hrow3, hno, hF, hgo⟩, hb3⟩
          | cons y ls =>
            have hy : 0 ≤ y ∧ y < N := by
              obtain ⟨_, _, _, _, _, _, h5, h6, h7⟩ := hS
              exact h6 y (by simp)
            have hny : y ∉ ls := by
              obtain ⟨_, _, _, _, _, _, h5, h6, h7⟩ := hS
              exact (List.nodup_cons.1 h5).1
            obtain ⟨j, rfl⟩ : ∃ j : Nat, y = j := ⟨y.toNat, by omega⟩
            have hjN : j < N := by omega
            have hcj := hrow3.cell hjN
            rw [inB_yes (by simp)] at hcj
            have hfj := hrow3.frozen j
            have hyi := hy.2
            have hyn : ¬ N ≤ j := by omega
            go_wp2_with fail
            go_meet
            refine ⟨ls, ⟨F, hS3.chg ((Chg.refl (fun b => b = go) w3).setCell (p := ⟨go, j, none⟩) (fun _ => rfl) _) (fun b h e => hno (e ▸ h)), (hrow3.set j _).congr (fun i hi => ?_), hno, hF, hgo⟩, hb3.setCell hgo _⟩
            by_cases e : i = j
            · subst e; rw [if_pos rfl, inB_no hny]; rfl
            · rw [if_neg e]
              have : (i : Int) ≠ (j : Int) := by omega
              simp [inB, this]
        · go_wp2_with fail
          refine (push_any g N ls F x wr hS).mono ?_
          rintro e w3 ⟨rfl, F3, hS3, hc3, hF3⟩
          have hrow3 := rowIs_chg hrow hc3 hno
          have hgl := hrow.lt
          have hno3 : ¬ F3 go := fun h => by
            rcases hF3 go h with h | h
            · exact hno h
            · omega
          have hF3' : ∀ b, F3 b → w.heap.size ≤ b := fun b h => by
            rcases hF3 b h with h | h
            · exact hF b h
            · omega
          have hb3 : Below w.heap.size w2 w3 := below_chg hbw hc3 (fun b h e => by have := hF b e; omega) (by omega)
          have hk3 : w3.cell? (ad.add k) = some (.int .i64 x) := (cell_chg hc3 (by rw [block_of_add]; omega) (fun e => by rw [block_of_add] at e; have := hF _ e; omega)).trans hc
          clear hc
          rcases hpo : pushOk N ls x with _ | _
          · have e2 : pushL N ls x = ls := by simp [pushL, hpo]
            rw [e2] at hS3
            clear e2 hpo
            go_wp2_with fail
            go_meet
            exact ⟨ls, ⟨F3, hS3, hrow3, hno3, hF3', hgo⟩, hb3⟩
          · have e2 : pushL N ls x = x :: ls := by simp [pushL, hpo]
            have hx3 : 0 ≤ x ∧ x < N ∧ x ∉ ls := by
              simp [pushOk, inB] at hpo
              exact ⟨hpo.1.1, hpo.1.2, hpo.2⟩
            rw [e2] at hS3
            clear e2 hpo
            obtain ⟨h1, h2, h3⟩ := hx3
            obtain ⟨j, rfl⟩ : ∃ j : Nat, x = j := ⟨x.toNat, by omega⟩
            have hjN : j < N := by omega
            have hcj := hrow3.cell hjN
            rw [inB_no h3] at hcj
            have hfj := hrow3.frozen j
            replace h3 := Lib.hid h3
            go_wp2_with fail
            go_meet
            refine ⟨(j : Int) :: ls, ⟨F3, hS3.chg ((Chg.refl (fun b => b = go) w3).setCell (p := ⟨go, j, none⟩) (fun _ => rfl) _) (fun b h e => hno3 (e ▸ h)), (hrow3.set j _).congr (fun i hi => ?_), hno3, hF3', hgo⟩, hb3.setCell hgo _⟩
            by_cases e : i = j
            · subst e; rw [if_pos rfl, inB_yes (by simp)]; rfl
            · rw [if_neg e]
              have : (i : Int) ≠ (j : Int) := by omega
              simp [inB, this]
      case rest =>
        clear hS hrow hno hF hgo hbw
        obtain ⟨ls', ⟨F', hS, hrow, hno, hF, hgo⟩, hbw⟩ := hcut
        have hcnt : cnt ls' N = ls'.length := by
          obtain ⟨_, _, _, _, _, _, h5, h6, h7⟩ := hS
          exact cnt_all ls' N h5 h6
        have hlN := cnt_le ls' N
        replace hcnt := Lib.hid hcnt
        go_wp2_with fail
        refine (list_any g N ls' F' _ hS).mono ?_
        rintro e w5 ⟨A5, c5, rfl, hR5, hb5⟩
        have hC : Chg (fun _ => False) _ w5 := Chg.of_below hb5
        have hbw5 := below_chg hbw hC (fun _ _ h => h) (by have := hbw.size; omega)
        have hS5 := hS.chg hC (fun _ _ h => h)
        have hrow5 := rowIs_chg hrow hC (fun h => h)
        clear hS hrow hbw hb5 hC hR5
        have hcl : ((cnt ls' N : Nat) : Int) = ls'.length := by rw [hcnt.out]
        replace hcl := Lib.hid hcl
        go_wp2_with fail
        go_loopw [12, 13] (fun cn kk wv => ∃ j m, j ≤ N ∧ cn = .int .i64 (cnt ls' j : Nat) ∧ kk = .int .i64 (j : Nat) ∧ wv = w5.drewN m) (fun _ kk _ => N - (intOf kk).toNat)
        case atStart => exact ⟨0, 0, Nat.zero_le _, rfl, rfl, rfl⟩
        case round =>
          obtain ⟨j, m, hj, rfl, rfl, rfl⟩ := hrel
          by_cases hjN : j < N
          · have hcj := hrow5.cell hjN
            have hji : (j : Int) < (N : Int) := by omega
            have hcs := cnt_succ ls' j
            have hcle := cnt_le ls' j
            rcases hin : inB ls' j with _ | _
            · rw [hin] at hcj hcs
              simp at hcj hcs
              replace hcs := Lib.hid hcs
              have C : ∀ W, Calls Try.prog 26 #[.pointer (some ⟨g, 0, none⟩), .int .i64 (j : Nat)] (w5.drewN W) fun e w' => e = .returned (.bool false) ∧ w5.drewN W = w' := fun W => (has_stack g N ls' F' j (w5.drewN W) hS5).mono (by rintro e w' ⟨rfl, rfl⟩; exact ⟨by rw [hin], rfl⟩)
              replace C := Lib.hid C
              clear hin
              go_wp2_with fail
              go_quiet ((go_at_call 26; first | exact quiet_add_left (C.out _) | exact quiet_left (C.out _)))
              go_wp2_with fail
              go_roundw
              case rel => exact ⟨j + 1, _, by omega, by rw [hcs.out], by go_num, rfl⟩
              case measure => simp [intOf]; omega
            · rw [hin] at hcj hcs
              simp at hcj hcs
              replace hcs := Lib.hid hcs
              have C : ∀ W, Calls Try.prog 26 #[.pointer (some ⟨g, 0, none⟩), .int .i64 (j : Nat)] (w5.drewN W) fun e w' => e = .returned (.bool true) ∧ w5.drewN W = w' := fun W => (has_stack g N ls' F' j (w5.drewN W) hS5).mono (by rintro e w' ⟨rfl, rfl⟩; exact ⟨by rw [hin], rfl⟩)
              replace C := Lib.hid C
              clear hin
              go_wp2_with fail
              go_quiet ((go_at_call 26; first | exact quiet_add_left (C.out _) | exact quiet_left (C.out _)))
              go_wp2_with fail
              go_roundw
              case rel => exact ⟨j + 1, _, by omega, by rw [hcs.out]; first | rfl | go_num, by go_num, rfl⟩
              case measure => simp [intOf]; omega
          · obtain rfl : j = N := by omega
            have hcl := hcl.out
            go_wp2_with (go_at_call 25; refine (free_any g j ls' F' (w5.drewN m) (by exact hS5)).mono ?_; rintro e w' ⟨rfl, rfl⟩)
            go_roundw
            case rel => exact ⟨k + 1, ls', by omega, by go_num, ⟨F', hS5, hrow5, hno, hF, hgo⟩, below_drewN hbw5 m⟩
            case measure => simp [intOf]; omega
    · go_wp2_with (go_at_call 18; refine (awake16 _).mono ?_; rintro e w1 ⟨rfl, hb1⟩)
      go_ret
      exact ⟨rfl, below_call2 hb1 (hb.trans hbw) (by omega)⟩
end Go.Proofs.Ytdkcjfcjckpjcaa
