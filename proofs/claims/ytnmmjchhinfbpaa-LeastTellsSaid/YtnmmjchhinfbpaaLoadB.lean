/- load: the counts as a list of pairs; New, given, Get. load: Add, Less. -/
import Derived.Test.YtnmmjchhinfbpaaKit
import Derived.Maps.OwnSet
import Derived.Maps.OwnOps
import Derived.Deep.QuietTactic
import Derived.BigQuiet
import Derived.StillTailTactics
namespace Go.Proofs.Ytnmmjchhinfbpaa
open Go Go.RowKit Go.Deep Go.Maps Go.ChangeMaps

/-! A map from integers to integers, told by a list of pairs. -/
abbrev LM := List (Int × Int)
def ilit (n : Int) : Lit := .int .i64 n
def lmE (M : LM) : List (Lit × DataW Unit) := M.map fun x => (ilit x.1, .lit (ilit x.2))
def lmD (M : LM) : DataW Unit := .map (lmE M)
def lmGet (M : LM) (id : Int) : Int := match M.find? (fun x => x.1 == id) with | some p => p.2 | none => 0
def lmDel (M : LM) (id : Int) : LM := M.filter fun x => !(x.1 == id)
def lmIns (x : Int × Int) : LM → LM
  | [] => [x]
  | y :: r => if x.1 < y.1 then x :: y :: r else y :: lmIns x r
def lmPut (M : LM) (id v : Int) : LM := lmIns (id, v) (lmDel M id)
theorem ilit_same (a b : Int) : (ilit a).sameKey (ilit b) = (a == b) := by
  simp only [ilit, Lit.sameKey]
  by_cases h : a = b <;> simp [h]
theorem lm_at (M : LM) (id : Int) : (lmD M).atKey (ilit id) (.lit (ilit 0)) = .lit (ilit (lmGet M id)) := by
  simp only [lmD, DataW.atKey, lmGet, lmE]
  induction M with
  | nil => rfl
  | cons x M ih =>
    rw [List.map_cons, List.find?_cons, List.find?_cons]
    rw [show (ilit x.1).sameKey (ilit id) = (x.1 == id) from ilit_same _ _]
    cases x.1 == id
    · exact ih
    · rfl
theorem lm_insert (x : Int × Int) : ∀ M : LM, DataW.insert (ilit x.1, .lit (ilit x.2)) (lmE M) = lmE (lmIns x M)
  | [] => rfl
  | y :: M => by
    show (if (ilit x.1).before (ilit y.1) then _ else _) = _
    have e : (ilit x.1).before (ilit y.1) = decide (x.1 < y.1) := rfl
    rw [e]
    unfold lmIns
    by_cases h : x.1 < y.1
    · rw [if_pos (by simpa using h), if_pos h]; rfl
    · rw [if_neg (by simpa using h), if_neg h]
      show _ :: DataW.insert _ (lmE M) = _
      rw [lm_insert x M]; rfl
theorem lm_filter (M : LM) (id : Int) : (lmE M).filter (fun p => !p.1.sameKey (ilit id)) = lmE (lmDel M id) := by
  unfold lmE lmDel
  induction M with
  | nil => rfl
  | cons x M ih =>
    rw [List.map_cons, List.filter_cons, List.filter_cons]
    rw [show (ilit x.1).sameKey (ilit id) = (x.1 == id) from ilit_same _ _]
    cases x.1 == id
    · simp [ih]
    · simpa using ih
theorem lm_put (M : LM) (id v : Int) : (lmD M).put (ilit id) (.lit (ilit v)) = lmD (lmPut M id v) := by
  show DataW.map (DataW.insert (ilit id, .lit (ilit v)) ((lmE M).filter fun p => !p.1.sameKey (ilit id))) = _
  rw [lm_filter, lm_insert (id, v)]
  rfl
theorem lm_del (M : LM) (id : Int) : (lmD M).del (ilit id) = lmD (lmDel M id) := by
  show DataW.map ((lmE M).filter fun p => !p.1.sameKey (ilit id)) = _
  rw [lm_filter]; rfl
theorem lmIns_length (x : Int × Int) : ∀ M : LM, (lmIns x M).length = M.length + 1
  | [] => rfl
  | y :: M => by unfold lmIns; split <;> simp [lmIns_length x M]
theorem lmDel_length (M : LM) (id : Int) : (lmDel M id).length ≤ M.length := List.length_filter_le _ _
theorem lmPut_length (M : LM) (id v : Int) : (lmPut M id v).length ≤ M.length + 1 := by
  unfold lmPut; rw [lmIns_length]; have := lmDel_length M id; omega
theorem lmDel_ins (id v : Int) : ∀ M : LM, lmDel (lmIns (id, v) M) id = lmDel M id
  | [] => by simp [lmIns, lmDel]
  | y :: M => by
    have ih := lmDel_ins id v M
    unfold lmIns
    split
    · simp [lmDel]
    · unfold lmDel at ih ⊢
      simp only [List.filter_cons]
      rw [ih]
theorem lmDel_del (M : LM) (id : Int) : lmDel (lmDel M id) id = lmDel M id := by simp [lmDel]
theorem lmDel_put (M : LM) (id v : Int) : lmDel (lmPut M id v) id = lmDel M id := by unfold lmPut; rw [lmDel_ins, lmDel_del]
theorem lmGet_ins (id v : Int) : ∀ M : LM, (∀ x ∈ M, x.1 ≠ id) → lmGet (lmIns (id, v) M) id = v
  | [], _ => by simp [lmIns, lmGet]
  | y :: M, h => by
    unfold lmIns
    split
    · simp [lmGet]
    · have hy : (y.1 == id) = false := by simpa using h y (by simp)
      have ih := lmGet_ins id v M fun x hx => h x (by simp [hx])
      unfold lmGet at ih ⊢
      rw [List.find?_cons, hy]
      exact ih
theorem lmGet_put (M : LM) (id v : Int) : lmGet (lmPut M id v) id = v := lmGet_ins id v _ fun x hx => by simpa using (List.mem_filter.1 hx).2

def Imap (w : World) (b : Nat) (M : LM) : Prop := w.ownsMap Try.prog 3 (plainElem Try.prog 3) b M.length (lmD M)
theorem Imap.of {w : World} {b n : Nat} {M : LM} (h : w.ownsMap Try.prog 3 (plainElem Try.prog 3) b n (lmD M)) : Imap w b M := by
  obtain ⟨es, clock, hb, F, _, hD⟩ := h
  refine ⟨es, clock, hb, F, ?_, hD⟩
  have e : es.size = ((es.toList.map (WideElems.rg Try.prog 3 (plainElem (H := Unit) Try.prog 3))).foldr DataW.insert []).length := by rw [length_sorted]; simp
  have e2 : lmE M = (es.toList.map (WideElems.rg Try.prog 3 (plainElem (H := Unit) Try.prog 3))).foldr DataW.insert [] := by simpa [lmD] using hD
  rw [e, ← e2]
  simp [lmE]
theorem int_law : Keyed Try.prog 3 := int_keyed Try.underlying3
theorem int_zero (w : World) : (zeroValue 3).run Try.prog w = .ok (.int .i64 0) w := by kernel_rfl
theorem int_key {id : Int} (h : (Lit.int .i64 id).wf = true) : keyOf Try.prog 3 (.int .i64 id) = some (ilit id) := keyOf_int_mk Try.underlying3 h
theorem Imap.look {w : World} {b : Nat} {M : LM} (h : Imap w b M) {id : Int} (hk : (Lit.int .i64 id).wf = true) :
    (Instr.lookup 131 (.map (some b)) (.int .i64 id) false).run Try.prog w = .ok (.int .i64 (lmGet M id)) w := by
  obtain ⟨c, hrun, hat, _⟩ := World.ownsMap.lookup_int h int_law Try.underlying131 Try.underlying3 (int_zero w) (int_key hk)
  have := (lm_at M id).symm.trans hat
  simp [ilit] at this
  rw [hrun, this]

def LoadAt (w : World) (g b : Nat) (M : LM) : Prop := Blk w g 133 #[.map (some b)] ∧ Imap w b M
theorem Imap.chg {F : Nat → Prop} {w w1 : World} {b : Nat} {M : LM} (h : Imap w b M) (k : Chg F w w1) (hg : ¬ F b) : Imap w1 b M := by
  have hlt := World.ownsMap.lt h
  obtain ⟨es, clock, hb, r⟩ := h
  exact ⟨es, clock, (k.block hlt hg).trans hb, r⟩
theorem Imap.call {w w1 : World} {b : Nat} {M : LM} (h : Imap w b M) (hb : Below w.heap.size w w1) : Imap w1 b M := by
  have hlt := World.ownsMap.lt h
  obtain ⟨es, clock, h1, r⟩ := h
  exact ⟨es, clock, (hb.block b hlt).trans h1, r⟩
theorem LoadAt.call {w w1 : World} {g b : Nat} {M : LM} (h : LoadAt w g b M) (hb : Below w.heap.size w w1) : LoadAt w1 g b M := ⟨h.1.call hb, h.2.call hb⟩
theorem LoadAt.lt {w : World} {g b : Nat} {M : LM} (h : LoadAt w g b M) : g < w.heap.size ∧ b < w.heap.size := ⟨h.1.lt, World.ownsMap.lt h.2⟩

theorem load_new (w : World) : Calls Try.prog 44 #[] w fun e w' => ∃ g b, e = .returned (.pointer (some ⟨g, 0, none⟩)) ∧ LoadAt w' g b [] ∧ w.heap.size ≤ g ∧ w.heap.size ≤ b ∧ Below w.heap.size w w' := by
  have hmm := @run_makeMap Try.prog
  go_enter Try.func44, Try.ntmps44
  go_wp2_with fail
  go_ret
  refine ⟨w.heap.size + 1, w.heap.size, rfl, ⟨?_, ?_⟩, by omega, by omega, (by repeat (first | exact Below.refl _ _ | assumption | refine below_alloc ?_ _ | refine below_chain (by assumption) ?_ | refine below_call2 (by assumption) ?_ (by first | omega | (simp; done) | (simp; omega) | (simp [World.setCell]; omega)) | refine below_drewN ?_ _ | refine Below.drew ?_ | refine Below.alloc ?_ (by first | omega | (simp; done) | (simp; omega) | (simp [World.setCell]; omega)) _ | refine Below.setCell ?_ (by first | omega | (simp; done) | (simp; omega) | (simp [World.setCell]; omega)) _))⟩
  · simpa using Blk.new (w.alloc (.map #[] 0)) 133 #[.map (some w.heap.size)]
  · exact (World.ownsMap_made w _ _ _).alloc _
set_option maxRecDepth 100000 in
theorem load_given (g b : Nat) (M : LM) (w : World) (h : LoadAt w g b M) : Calls Try.prog 79 #[.pointer (some ⟨g, 0, none⟩)] w fun e w' => e = .returned (.bool true) ∧ w = w' := by
  have c0 := h.1.cell 0
  simp at c0
  have hne := fun (W : World) (r : Option Nat) => run_neq_map_nil (P := Try.prog) W 131 3 3 r Try.underlying131
  go_enter Try.func79, Try.ntmps79
  go_wp2_with fail
  go_ret
  exact ⟨rfl, rfl⟩
set_option maxRecDepth 100000 in
theorem load_get (g b : Nat) (M : LM) (id : Int) (w : World) (h : LoadAt w g b M) (hk : (Lit.int .i64 id).wf = true) : Calls Try.prog 53 #[.pointer (some ⟨g, 0, none⟩), .int .i64 id] w fun e w' => e = .returned (.int .i64 (lmGet M id)) ∧ w = w' := by
  have c0 := h.1.cell 0
  simp at c0
  have hl := h.2.look hk
  have G := Lib.hid (load_given g b M w h)
  go_enter Try.func53, Try.ntmps53
  go_wp2_with (go_at_call 79; with_reducible refine G.out.mono ?_; rintro e w1 ⟨rfl, rfl⟩)
  go_ret
  exact ⟨rfl, rfl⟩
end Go.Proofs.Ytnmmjchhinfbpaa

namespace Go.Proofs.Ytnmmjchhinfbpaa
open Go Go.RowKit Go.Deep Go.Maps Go.ChangeMaps

def farI : Int := 1099511627776
def lmAdd (M : LM) (id n : Int) : LM := if n < -1099511627776 ∨ 1099511627776 < n then M else if min 1099511627776 (lmGet M id + n) ≤ 0 then lmDel M id else lmPut M id (min 1099511627776 (lmGet M id + n))
def lmPos (M : LM) : Prop := ∀ x ∈ M, 1 ≤ x.2 ∧ x.2 ≤ 1099511627776
theorem lmGet_rng {M : LM} (h : lmPos M) (id : Int) : 0 ≤ lmGet M id ∧ lmGet M id ≤ 1099511627776 := by
  unfold lmGet
  cases e : M.find? (fun x => x.1 == id) with
  | none => simp
  | some p => have := h p (List.mem_of_find?_eq_some e); simp; omega
theorem lmDel_pos {M : LM} (h : lmPos M) (id : Int) : lmPos (lmDel M id) := fun x hx => h x (List.mem_filter.1 hx).1
theorem lmIns_mem {x y : Int × Int} : ∀ {M : LM}, y ∈ lmIns x M → y = x ∨ y ∈ M
  | [], h => by simpa [lmIns] using h
  | z :: M, h => by
    unfold lmIns at h
    split at h
    · simpa using h
    · rcases List.mem_cons.1 h with h | h
      · exact .inr (by simp [h])
      · rcases lmIns_mem h with h | h
        · exact .inl h
        · exact .inr (by simp [h])
theorem lmPut_pos {M : LM} (h : lmPos M) {id v : Int} (h1 : 1 ≤ v) (h2 : v ≤ 1099511627776) : lmPos (lmPut M id v) := fun x hx => by
  rcases lmIns_mem hx with rfl | hx
  · exact ⟨h1, h2⟩
  · exact lmDel_pos h id x hx
theorem lmAdd_pos {M : LM} (h : lmPos M) (id n : Int) : lmPos (lmAdd M id n) := by
  unfold lmAdd
  split
  · exact h
  · split
    · exact lmDel_pos h id
    · exact lmPut_pos h (by omega) (by omega)
theorem lmAdd_length (M : LM) (id n : Int) : (lmAdd M id n).length ≤ M.length + 1 := by
  unfold lmAdd
  split
  · omega
  · split
    · have := lmDel_length M id; omega
    · exact lmPut_length M id _
theorem wf_i64_mk {n : Int} (h1 : -9223372036854775808 ≤ n) (h2 : n ≤ 9223372036854775807) : (Lit.int .i64 n).wf = true := by
  simp [Lit.wf, IntKind.min, IntKind.max, IntKind.bits, IntKind.signed]; omega
theorem LoadAt.ne {w : World} {g b : Nat} {M : LM} (h : LoadAt w g b M) : g ≠ b := by
  rintro rfl
  obtain ⟨h1, es, clock, h2, _⟩ := h
  unfold Blk at h1
  rw [h1] at h2
  cases h2

set_option maxRecDepth 100000 in
set_option maxHeartbeats 1000000 in
theorem load_add (g b : Nat) (M : LM) (id n : Int) (w : World) (h : LoadAt w g b M) (hk : (Lit.int .i64 id).wf = true) (hp : lmPos M) (hl : M.length ≤ 1000000) :
    Calls Try.prog 45 #[.pointer (some ⟨g, 0, none⟩), .int .i64 id, .int .i64 n] w fun e w' => e = .returned (.tuple #[]) ∧ LoadAt w' g b (lmAdd M id n) ∧ Chg (· = b) w w' := by
  have G := Lib.hid (load_given g b M w h)
  unfold lmAdd
  by_cases h1 : n < -1099511627776
  · have d1 : decide (n < -1099511627776) = true := by simpa using h1
    rw [if_pos (.inl h1)]
    clear h1
    go_enter Try.func45, Try.ntmps45
    go_wp2_with (go_at_call 79; with_reducible refine G.out.mono ?_; rintro e w1 ⟨rfl, rfl⟩)
    refine bodyPost_ret (results_none rfl _ _ _) rfl ?_
    exact ⟨rfl, h, Chg.refl _ _⟩
  by_cases h2 : 1099511627776 < n
  · have d1 : decide (n < -1099511627776) = false := by simpa using h1
    have d2 : decide (1099511627776 < n) = true := by simpa using h2
    rw [if_pos (.inr h2)]
    clear h1 h2
    go_enter Try.func45, Try.ntmps45
    go_wp2_with (go_at_call 79; with_reducible refine G.out.mono ?_; rintro e w1 ⟨rfl, rfl⟩)
    refine bodyPost_ret (results_none rfl _ _ _) rfl ?_
    exact ⟨rfl, h, Chg.refl _ _⟩
  have d1 : decide (n < -1099511627776) = false := by simpa using h1
  have d2 : decide (1099511627776 < n) = false := by simpa using h2
  rw [if_neg (by omega)]
  obtain ⟨r1, r2⟩ := lmGet_rng hp id
  obtain ⟨v, hv⟩ : ∃ v, lmGet M id = v := ⟨_, rfl⟩
  have hlook : (Instr.lookup 131 (.map (some b)) (.int .i64 id) false).run Try.prog w.drew = .ok (.int .i64 v) w.drew := by rw [← hv]; exact Imap.look (w := w.drew) h.2 hk
  rw [hv] at r1 r2 ⊢
  clear hv
  have c0 := h.1.cell 0
  simp at c0
  have hwrap : IntKind.i64.wrap (v + n) = v + n := i64_id _ (by omega)
  have hb1 : -9223372036854775808 ≤ v + n := by omega
  have hb2 : v + n ≤ 9223372036854775807 := by omega
  by_cases hm : 1099511627776 < v + n
  · rw [show min 1099511627776 (v + n) = 1099511627776 by omega, if_neg (by omega)]
    go_enter Try.func45, Try.ntmps45
    go_wp2_with (go_at_call 79; with_reducible refine G.out.mono ?_; rintro e w1 ⟨rfl, rfl⟩)
    refine wp_region_still_tail 14 (by kernel_rfl) (by kernel_rfl) ?_
    simp only [List.take_succ_cons, List.take_zero, List.drop_succ_cons, List.drop_zero]
    repeat still_step
    refine wpStill_nil ?_
    change wpList _ _ _ _ _ w.drew
    rw [show (if v + n < 1099511627776 then v + n else 1099511627776) = 1099511627776 by split <;> omega]
    have hd : LoadAt w.drew g b M := h
    have hcd : Chg (· = b) w w.drew := (Chg.refl _ _).drew
    clear hlook c0 h
    generalize w.drew = w1 at *
    have hne := hd.ne
    go_wp2_with (at_mapUpdate; go_must (refine wpList_mapUpdate_own _ rfl _ _ _ 131 rfl 3 3 int_law Try.underlying131 _ b M.length (lmD M) rfl hd.2 (by unfold maxLen; omega) (.int .i64 id) (.int .i64 (1099511627776)) (ilit id) rfl rfl (int_key hk) (.lit (ilit (1099511627776))) [] (plainElem_int Try.underlying3 (wf_i64_mk (by omega) (by omega))) ?_; intro w2 hown2 hg2; rw [lm_put] at hown2; have hI2 := Imap.of hown2; have hB2 := hd.1.grown hg2 (by simp; omega); have hc2 := hcd.grown hg2 (fun k hk _ => by simpa using hk.symm); have hl2 := hI2.look hk; rw [lmGet_put] at hl2; have c2 := hB2.cell 0; simp at c2; clear hown2 hg2))
    go_end0
    exact ⟨rfl, ⟨hB2, hI2⟩, hc2⟩
  · rw [show min 1099511627776 (v + n) = v + n by omega]
    by_cases hz : v + n ≤ 0
    · rw [if_pos hz]
      have dz : decide (v + n ≤ 0) = true := by simpa using hz
      go_enter Try.func45, Try.ntmps45
      go_wp2_with (go_at_call 79; with_reducible refine G.out.mono ?_; rintro e w1 ⟨rfl, rfl⟩)
      refine wp_region_still_tail 14 (by kernel_rfl) (by kernel_rfl) ?_
      simp only [List.take_succ_cons, List.take_zero, List.drop_succ_cons, List.drop_zero]
      repeat still_step
      refine wpStill_nil ?_
      change wpList _ _ _ _ _ w.drew
      rw [show (if v + n < 1099511627776 then v + n else 1099511627776) = v + n by split <;> omega]
      have hd : LoadAt w.drew g b M := h
      have hcd : Chg (· = b) w w.drew := (Chg.refl _ _).drew
      clear hlook c0 h
      generalize w.drew = w1 at *
      have hne := hd.ne
      go_wp2_with (first | (at_mapUpdate; go_must (refine wpList_mapUpdate_own _ rfl _ _ _ 131 rfl 3 3 int_law Try.underlying131 _ b M.length (lmD M) rfl hd.2 (by unfold maxLen; omega) (.int .i64 id) (.int .i64 (v + n)) (ilit id) rfl rfl (int_key hk) (.lit (ilit (v + n))) [] (plainElem_int Try.underlying3 (wf_i64_mk (by omega) (by omega))) ?_; intro w2 hown2 hg2; rw [lm_put] at hown2; have hI2 := Imap.of hown2; have hB2 := hd.1.grown hg2 (by simp; omega); have hc2 := hcd.grown hg2 (fun k hk _ => by simpa using hk.symm); have hl2 := hI2.look hk; rw [lmGet_put] at hl2; have c2 := hB2.cell 0; simp at c2; clear hown2 hg2)) | (at_delete; refine wpList_delete_own _ rfl _ _ 131 3 rfl 3 int_law Try.underlying131 _ b _ (lmD (lmPut M id (v + n))) rfl hI2 _ _ rfl (int_key hk) ?_; intro w3 hown3 ht3; rw [lm_del, lmDel_put] at hown3; have hI3 := Imap.of hown3; have hg3 := ht3.grown; have hB3 := hB2.grown hg3 (by simp; omega); have hc3 := hc2.grown hg3 (fun k hk _ => by simpa using hk.symm)))
      go_end0
      exact ⟨rfl, ⟨hB3, hI3⟩, hc3⟩
    · rw [if_neg hz]
      have dz : decide (v + n ≤ 0) = false := by simpa using hz
      go_enter Try.func45, Try.ntmps45
      go_wp2_with (go_at_call 79; with_reducible refine G.out.mono ?_; rintro e w1 ⟨rfl, rfl⟩)
      refine wp_region_still_tail 14 (by kernel_rfl) (by kernel_rfl) ?_
      simp only [List.take_succ_cons, List.take_zero, List.drop_succ_cons, List.drop_zero]
      repeat still_step
      refine wpStill_nil ?_
      change wpList _ _ _ _ _ w.drew
      rw [show (if v + n < 1099511627776 then v + n else 1099511627776) = v + n by split <;> omega]
      have hd : LoadAt w.drew g b M := h
      have hcd : Chg (· = b) w w.drew := (Chg.refl _ _).drew
      clear hlook c0 h
      generalize w.drew = w1 at *
      have hne := hd.ne
      go_wp2_with (at_mapUpdate; go_must (refine wpList_mapUpdate_own _ rfl _ _ _ 131 rfl 3 3 int_law Try.underlying131 _ b M.length (lmD M) rfl hd.2 (by unfold maxLen; omega) (.int .i64 id) (.int .i64 (v + n)) (ilit id) rfl rfl (int_key hk) (.lit (ilit (v + n))) [] (plainElem_int Try.underlying3 (wf_i64_mk (by omega) (by omega))) ?_; intro w2 hown2 hg2; rw [lm_put] at hown2; have hI2 := Imap.of hown2; have hB2 := hd.1.grown hg2 (by simp; omega); have hc2 := hcd.grown hg2 (fun k hk _ => by simpa using hk.symm); have hl2 := hI2.look hk; rw [lmGet_put] at hl2; have c2 := hB2.cell 0; simp at c2; clear hown2 hg2))
      go_end0
      exact ⟨rfl, ⟨hB2, hI2⟩, hc2⟩
end Go.Proofs.Ytnmmjchhinfbpaa
