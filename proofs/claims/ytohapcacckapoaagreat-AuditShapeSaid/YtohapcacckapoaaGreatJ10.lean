/- load: the counts as a list of pairs; New, given, Get. load: Add, Less. wheel: the struct of many cells. -/
import Derived.Test.YtohapcacckapoaaGreatJ9
import Derived.Maps.OwnSet
import Derived.Maps.OwnOps
import Derived.Deep.QuietTactic
import Derived.BigQuiet
import Derived.StillTailTactics
namespace Go.Proofs.YtohapcacckapoaaGreat
open Go Go.RowKit Go.Deep Go.Maps Go.ChangeMaps
abbrev LM := List (Int × Int)
def ilit (n : Int) : Lit := .int .i64 n
def lmE (M : LM) : List (Lit × DataW Unit) := M.map fun x => (ilit x.1, .lit (ilit x.2))
def lmD (M : LM) : DataW Unit := .map (lmE M)
def lmGet (M : LM) (id : Int) : Int := match M.find? (fun x => x.1 == id) with | some p => p.2 | none => 0
def lmDel (M : LM) (id : Int) : LM := M.filter fun x => !(x.1 == id)
def lmIns (x : Int × Int) : LM → LM
 | [] => [x]
 | y :: r => if x.1 < y.1 then x :: y :: r else y :: lmIns x r
def lmPut (M : LM) (id v : Int) : LM := lmIns (id, v) (lmDel M id)
theorem ilit_same (a b : Int) : (ilit a).sameKey (ilit b) = (a == b) := by
 simp only [ilit, Lit.sameKey]
 by_cases h : a = b <;> simp [h]
theorem lm_at (M : LM) (id : Int) : (lmD M).atKey (ilit id) (.lit (ilit 0)) = .lit (ilit (lmGet M id)) := by
 simp only [lmD, DataW.atKey, lmGet, lmE]
 induction M with
 | nil => rfl
 | cons x M ih =>
  rw [List.map_cons, List.find?_cons, List.find?_cons]
  rw [show (ilit x.1).sameKey (ilit id) = (x.1 == id) from ilit_same _ _]
  cases x.1 == id
  · exact ih
  · rfl
theorem lm_insert (x : Int × Int) : ∀ M : LM, DataW.insert (ilit x.1, .lit (ilit x.2)) (lmE M) = lmE (lmIns x M)
 | [] => rfl
 | y :: M => by
  show (if (ilit x.1).before (ilit y.1) then _ else _) = _
  have e : (ilit x.1).before (ilit y.1) = decide (x.1 < y.1) := rfl
  rw [e]
  unfold lmIns
  by_cases h : x.1 < y.1
  · rw [if_pos (by simpa using h), if_pos h]; rfl
  ·
   rw [if_neg (by simpa using h), if_neg h]
   show _ :: DataW.insert _ (lmE M) = _
   rw [lm_insert x M]; rfl
theorem lm_filter (M : LM) (id : Int) : (lmE M).filter (fun p => !p.1.sameKey (ilit id)) = lmE (lmDel M id) := by
 unfold lmE lmDel
 induction M with
 | nil => rfl
 | cons x M ih =>
  rw [List.map_cons, List.filter_cons, List.filter_cons]
  rw [show (ilit x.1).sameKey (ilit id) = (x.1 == id) from ilit_same _ _]
  cases x.1 == id
  · simp [ih]
  · simpa using ih
theorem lm_put (M : LM) (id v : Int) : (lmD M).put (ilit id) (.lit (ilit v)) = lmD (lmPut M id v) := by
 show DataW.map (DataW.insert (ilit id, .lit (ilit v)) ((lmE M).filter fun p => !p.1.sameKey (ilit id))) = _
 rw [lm_filter, lm_insert (id, v)]
 rfl
theorem lm_del (M : LM) (id : Int) : (lmD M).del (ilit id) = lmD (lmDel M id) := by
 show DataW.map ((lmE M).filter fun p => !p.1.sameKey (ilit id)) = _
 rw [lm_filter]; rfl
theorem lmIns_length (x : Int × Int) : ∀ M : LM, (lmIns x M).length = M.length + 1
 | [] => rfl
 | y :: M => by unfold lmIns; split <;> simp [lmIns_length x M]
theorem lmDel_ins (id v : Int) : ∀ M : LM, lmDel (lmIns (id, v) M) id = lmDel M id
 | [] => by simp [lmIns, lmDel]
 | y :: M => by
  have ih := lmDel_ins id v M
  unfold lmIns
  split
  · simp [lmDel]
  ·
   unfold lmDel at ih ⊢
   simp only [List.filter_cons]
   rw [ih]
theorem lmDel_del (M : LM) (id : Int) : lmDel (lmDel M id) id = lmDel M id := by simp [lmDel]
theorem lmDel_put (M : LM) (id v : Int) : lmDel (lmPut M id v) id = lmDel M id := by unfold lmPut; rw [lmDel_ins, lmDel_del]
theorem lmGet_ins (id v : Int) : ∀ M : LM, (∀ x ∈ M, x.1 ≠ id) → lmGet (lmIns (id, v) M) id = v
 | [], _ => by simp [lmIns, lmGet]
 | y :: M, h => by
  unfold lmIns
  split
  · simp [lmGet]
  ·
   have hy : (y.1 == id) = false := by simpa using h y (by simp)
   have ih := lmGet_ins id v M fun x hx => h x (by simp [hx])
   unfold lmGet at ih ⊢
   rw [List.find?_cons, hy]
   exact ih
theorem lmGet_put (M : LM) (id v : Int) : lmGet (lmPut M id v) id = v := lmGet_ins id v _ fun x hx => by simpa using (List.mem_filter.1 hx).2
def Imap (w : World) (b : Nat) (M : LM) : Prop := w.ownsMap Tryz.prog 3 (plainElem Tryz.prog 3) b M.length (lmD M)
theorem Imap.of {w : World} {b n : Nat} {M : LM} (h : w.ownsMap Tryz.prog 3 (plainElem Tryz.prog 3) b n (lmD M)) : Imap w b M := by
 obtain ⟨es, clock, hb, F, _, hD⟩ := h
 refine ⟨es, clock, hb, F, ?_, hD⟩
 have e : es.size = ((es.toList.map (WideElems.rg Tryz.prog 3 (plainElem (H := Unit) Tryz.prog 3))).foldr DataW.insert []).length := by rw [length_sorted]; simp
 have e2 : lmE M = (es.toList.map (WideElems.rg Tryz.prog 3 (plainElem (H := Unit) Tryz.prog 3))).foldr DataW.insert [] := by simpa [lmD] using hD
 rw [e, ← e2]
 simp [lmE]
theorem int_law : Keyed Tryz.prog 3 := int_keyed Tryz.underlying3
theorem int_zero (w : World) : (zeroValue 3).run Tryz.prog w = .ok (.int .i64 0) w := by kernel_rfl
theorem int_key {id : Int} (h : (Lit.int .i64 id).wf = true) : keyOf Tryz.prog 3 (.int .i64 id) = some (ilit id) := keyOf_int_mk Tryz.underlying3 h
theorem Imap.look {w : World} {b : Nat} {M : LM} (h : Imap w b M) {id : Int} (hk : (Lit.int .i64 id).wf = true) :
  (Instr.lookup 61 (.map (some b)) (.int .i64 id) false).run Tryz.prog w = .ok (.int .i64 (lmGet M id)) w := by
 obtain ⟨c, hrun, hat, _⟩ := World.ownsMap.lookup_int h int_law Tryz.underlying61 Tryz.underlying3 (int_zero w) (int_key hk)
 have := (lm_at M id).symm.trans hat
 simp [ilit] at this
 rw [hrun, this]
def LoadAt (w : World) (g b : Nat) (M : LM) : Prop := Blk w g 165 #[.map (some b)] ∧ Imap w b M
theorem Imap.chg {F : Nat → Prop} {w w1 : World} {b : Nat} {M : LM} (h : Imap w b M) (k : Chg F w w1) (hg : ¬ F b) : Imap w1 b M := by
 have hlt := World.ownsMap.lt h
 obtain ⟨es, clock, hb, r⟩ := h
 exact ⟨es, clock, (k.block hlt hg).trans hb, r⟩
theorem Imap.call {w w1 : World} {b : Nat} {M : LM} (h : Imap w b M) (hb : Below w.heap.size w w1) : Imap w1 b M := by
 have hlt := World.ownsMap.lt h
 obtain ⟨es, clock, h1, r⟩ := h
 exact ⟨es, clock, (hb.block b hlt).trans h1, r⟩
theorem LoadAt.call {w w1 : World} {g b : Nat} {M : LM} (h : LoadAt w g b M) (hb : Below w.heap.size w w1) : LoadAt w1 g b M := ⟨h.1.call hb, h.2.call hb⟩
theorem LoadAt.lt {w : World} {g b : Nat} {M : LM} (h : LoadAt w g b M) : g < w.heap.size ∧ b < w.heap.size := ⟨h.1.lt, World.ownsMap.lt h.2⟩
theorem load_new (w : World) : Calls Tryz.prog 51 #[] w fun e w' => ∃ g b, e = .returned (.pointer (some ⟨g, 0, none⟩)) ∧ LoadAt w' g b [] ∧ w.heap.size ≤ g ∧ w.heap.size ≤ b ∧ Below w.heap.size w w' := by
 have hmm := @run_makeMap Tryz.prog
 go_enter Tryz.func51, Tryz.ntmps51
 go_wp2_with fail
 go_ret
 refine ⟨w.heap.size + 1, w.heap.size, rfl, ⟨?_, ?_⟩, by omega, by omega, (by repeat (first | exact Below.refl _ _ | assumption | refine below_alloc ?_ _ | refine below_chain (by assumption) ?_ | refine below_call2 (by assumption) ?_ (by first | omega | (simp; done) | (simp; omega) | (simp [World.setCell]; omega)) | refine below_drewN ?_ _ | refine Below.drew ?_ | refine Below.alloc ?_ (by first | omega | (simp; done) | (simp; omega) | (simp [World.setCell]; omega)) _ | refine Below.setCell ?_ (by first | omega | (simp; done) | (simp; omega) | (simp [World.setCell]; omega)) _))⟩
 · simpa using Blk.new (w.alloc (.map #[] 0)) 165 #[.map (some w.heap.size)]
 · exact (World.ownsMap_made w _ _ _).alloc _
set_option maxRecDepth 100000 in
theorem load_given (g b : Nat) (M : LM) (w : World) (h : LoadAt w g b M) : Calls Tryz.prog 114 #[.pointer (some ⟨g, 0, none⟩)] w fun e w' => e = .returned (.bool true) ∧ w = w' := by
 have c0 := h.1.cell 0
 simp at c0
 have hne := fun (W : World) (r : Option Nat) => run_neq_map_nil (P := Tryz.prog) W 61 3 3 r Tryz.underlying61
 go_enter Tryz.func114, Tryz.ntmps114
 go_wp2_with fail
 go_ret
 exact ⟨rfl, rfl⟩
def farI : Int := 1099511627776
def lmAdd (M : LM) (id n : Int) : LM := if n < -1099511627776 ∨ 1099511627776 < n then M else if min 1099511627776 (lmGet M id + n) ≤ 0 then lmDel M id else lmPut M id (min 1099511627776 (lmGet M id + n))
def lmPos (M : LM) : Prop := ∀ x ∈ M, 1 ≤ x.2 ∧ x.2 ≤ 1099511627776
theorem lmGet_rng {M : LM} (h : lmPos M) (id : Int) : 0 ≤ lmGet M id ∧ lmGet M id ≤ 1099511627776 := by
 unfold lmGet
 cases e : M.find? (fun x => x.1 == id) with
 | none => simp
 | some p => have := h p (List.mem_of_find?_eq_some e); simp; omega
theorem lmDel_pos {M : LM} (h : lmPos M) (id : Int) : lmPos (lmDel M id) := fun x hx => h x (List.mem_filter.1 hx).1
theorem lmIns_mem {x y : Int × Int} : ∀ {M : LM}, y ∈ lmIns x M → y = x ∨ y ∈ M
 | [], h => by simpa [lmIns] using h
 | z :: M, h => by
  unfold lmIns at h
  split at h
  · simpa using h
  ·
   rcases List.mem_cons.1 h with h | h
   · exact .inr (by simp [h])
   ·
    rcases lmIns_mem h with h | h
    · exact .inl h
    · exact .inr (by simp [h])
theorem lmPut_pos {M : LM} (h : lmPos M) {id v : Int} (h1 : 1 ≤ v) (h2 : v ≤ 1099511627776) : lmPos (lmPut M id v) := fun x hx => by
 rcases lmIns_mem hx with rfl | hx
 · exact ⟨h1, h2⟩
 · exact lmDel_pos h id x hx
theorem lmAdd_pos {M : LM} (h : lmPos M) (id n : Int) : lmPos (lmAdd M id n) := by
 unfold lmAdd
 split
 · exact h
 ·
  split
  · exact lmDel_pos h id
  · exact lmPut_pos h (by omega) (by omega)
theorem wf_i64_mk {n : Int} (h1 : -9223372036854775808 ≤ n) (h2 : n ≤ 9223372036854775807) : (Lit.int .i64 n).wf = true := by
 simp [Lit.wf, IntKind.min, IntKind.max, IntKind.bits, IntKind.signed]; omega
theorem LoadAt.ne {w : World} {g b : Nat} {M : LM} (h : LoadAt w g b M) : g ≠ b := by
 rintro rfl
 obtain ⟨h1, es, clock, h2, _⟩ := h
 unfold Blk at h1
 rw [h1] at h2
 cases h2
set_option maxRecDepth 100000 in
set_option maxHeartbeats 1000000 in
theorem load_add (g b : Nat) (M : LM) (id n : Int) (w : World) (h : LoadAt w g b M) (hk : (Lit.int .i64 id).wf = true) (hp : lmPos M) (hl : M.length ≤ 1000000) :
  Calls Tryz.prog 107 #[.pointer (some ⟨g, 0, none⟩), .int .i64 id, .int .i64 n] w fun e w' => e = .returned (.tuple #[]) ∧ LoadAt w' g b (lmAdd M id n) ∧ Chg (· = b) w w' := by
 have G := Lib.hid (load_given g b M w h)
 unfold lmAdd
 by_cases h1 : n < -1099511627776
 ·
  have d1 : decide (n < -1099511627776) = true := by simpa using h1
  rw [if_pos (.inl h1)]
  clear h1
  go_enter Tryz.func107, Tryz.ntmps107
  go_wp2_with (go_at_call 114; with_reducible refine G.out.mono ?_; rintro e w1 ⟨rfl, rfl⟩)
  refine bodyPost_ret (results_none rfl _ _ _) rfl ?_
  exact ⟨rfl, h, Chg.refl _ _⟩
 by_cases h2 : 1099511627776 < n
 ·
  have d1 : decide (n < -1099511627776) = false := by simpa using h1
  have d2 : decide (1099511627776 < n) = true := by simpa using h2
  rw [if_pos (.inr h2)]
  clear h1 h2
  go_enter Tryz.func107, Tryz.ntmps107
  go_wp2_with (go_at_call 114; with_reducible refine G.out.mono ?_; rintro e w1 ⟨rfl, rfl⟩)
  refine bodyPost_ret (results_none rfl _ _ _) rfl ?_
  exact ⟨rfl, h, Chg.refl _ _⟩
 have d1 : decide (n < -1099511627776) = false := by simpa using h1
 have d2 : decide (1099511627776 < n) = false := by simpa using h2
 rw [if_neg (by omega)]
 obtain ⟨r1, r2⟩ := lmGet_rng hp id
 obtain ⟨v, hv⟩ : ∃ v, lmGet M id = v := ⟨_, rfl⟩
 have hlook : (Instr.lookup 61 (.map (some b)) (.int .i64 id) false).run Tryz.prog w.drew = .ok (.int .i64 v) w.drew := by rw [← hv]; exact Imap.look (w := w.drew) h.2 hk
 rw [hv] at r1 r2 ⊢
 clear hv
 have c0 := h.1.cell 0
 simp at c0
 have hwrap : IntKind.i64.wrap (v + n) = v + n := i64_id _ (by omega)
 have hb1 : -9223372036854775808 ≤ v + n := by omega
 have hb2 : v + n ≤ 9223372036854775807 := by omega
 by_cases hm : 1099511627776 < v + n
 ·
  rw [show min 1099511627776 (v + n) = 1099511627776 by omega, if_neg (by omega)]
  go_enter Tryz.func107, Tryz.ntmps107
  go_wp2_with (go_at_call 114; with_reducible refine G.out.mono ?_; rintro e w1 ⟨rfl, rfl⟩)
  refine wp_region_still_tail 14 (by kernel_rfl) (by kernel_rfl) ?_
  simp only [List.take_succ_cons, List.take_zero, List.drop_succ_cons, List.drop_zero]
  repeat still_step
  refine wpStill_nil ?_
  change wpList _ _ _ _ _ w.drew
  rw [show (if v + n < 1099511627776 then v + n else 1099511627776) = 1099511627776 by split <;> omega]
  have hd : LoadAt w.drew g b M := h
  have hcd : Chg (· = b) w w.drew := (Chg.refl _ _).drew
  clear hlook c0 h
  generalize w.drew = w1 at *
  have hne := hd.ne
  go_wp2_with (at_mapUpdate; go_must (refine wpList_mapUpdate_own _ rfl _ _ _ 61 rfl 3 3 int_law Tryz.underlying61 _ b M.length (lmD M) rfl hd.2 (by unfold maxLen; omega) (.int .i64 id) (.int .i64 (1099511627776)) (ilit id) rfl rfl (int_key hk) (.lit (ilit (1099511627776))) [] (plainElem_int Tryz.underlying3 (wf_i64_mk (by omega) (by omega))) ?_; intro w2 hown2 hg2; rw [lm_put] at hown2; have hI2 := Imap.of hown2; have hB2 := hd.1.grown hg2 (by simp; omega); have hc2 := hcd.grown hg2 (fun k hk _ => by simpa using hk.symm); have hl2 := hI2.look hk; rw [lmGet_put] at hl2; have c2 := hB2.cell 0; simp at c2; clear hown2 hg2))
  go_end0
  exact ⟨rfl, ⟨hB2, hI2⟩, hc2⟩
 ·
  rw [show min 1099511627776 (v + n) = v + n by omega]
  by_cases hz : v + n ≤ 0
  ·
   rw [if_pos hz]
   have dz : decide (v + n ≤ 0) = true := by simpa using hz
   go_enter Tryz.func107, Tryz.ntmps107
   go_wp2_with (go_at_call 114; with_reducible refine G.out.mono ?_; rintro e w1 ⟨rfl, rfl⟩)
   refine wp_region_still_tail 14 (by kernel_rfl) (by kernel_rfl) ?_
   simp only [List.take_succ_cons, List.take_zero, List.drop_succ_cons, List.drop_zero]
   repeat still_step
   refine wpStill_nil ?_
   change wpList _ _ _ _ _ w.drew
   rw [show (if v + n < 1099511627776 then v + n else 1099511627776) = v + n by split <;> omega]
   have hd : LoadAt w.drew g b M := h
   have hcd : Chg (· = b) w w.drew := (Chg.refl _ _).drew
   clear hlook c0 h
   generalize w.drew = w1 at *
   have hne := hd.ne
   go_wp2_with (first | (at_mapUpdate; go_must (refine wpList_mapUpdate_own _ rfl _ _ _ 61 rfl 3 3 int_law Tryz.underlying61 _ b M.length (lmD M) rfl hd.2 (by unfold maxLen; omega) (.int .i64 id) (.int .i64 (v + n)) (ilit id) rfl rfl (int_key hk) (.lit (ilit (v + n))) [] (plainElem_int Tryz.underlying3 (wf_i64_mk (by omega) (by omega))) ?_; intro w2 hown2 hg2; rw [lm_put] at hown2; have hI2 := Imap.of hown2; have hB2 := hd.1.grown hg2 (by simp; omega); have hc2 := hcd.grown hg2 (fun k hk _ => by simpa using hk.symm); have hl2 := hI2.look hk; rw [lmGet_put] at hl2; have c2 := hB2.cell 0; simp at c2; clear hown2 hg2)) | (at_delete; refine wpList_delete_own _ rfl _ _ 61 3 rfl 3 int_law Tryz.underlying61 _ b _ (lmD (lmPut M id (v + n))) rfl hI2 _ _ rfl (int_key hk) ?_; intro w3 hown3 ht3; rw [lm_del, lmDel_put] at hown3; have hI3 := Imap.of hown3; have hg3 := ht3.grown; have hB3 := hB2.grown hg3 (by simp; omega); have hc3 := hc2.grown hg3 (fun k hk _ => by simpa using hk.symm)))
   go_end0
   exact ⟨rfl, ⟨hB3, hI3⟩, hc3⟩
  ·
   rw [if_neg hz]
   have dz : decide (v + n ≤ 0) = false := by simpa using hz
   go_enter Tryz.func107, Tryz.ntmps107
   go_wp2_with (go_at_call 114; with_reducible refine G.out.mono ?_; rintro e w1 ⟨rfl, rfl⟩)
   refine wp_region_still_tail 14 (by kernel_rfl) (by kernel_rfl) ?_
   simp only [List.take_succ_cons, List.take_zero, List.drop_succ_cons, List.drop_zero]
   repeat still_step
   refine wpStill_nil ?_
   change wpList _ _ _ _ _ w.drew
   rw [show (if v + n < 1099511627776 then v + n else 1099511627776) = v + n by split <;> omega]
   have hd : LoadAt w.drew g b M := h
   have hcd : Chg (· = b) w w.drew := (Chg.refl _ _).drew
   clear hlook c0 h
   generalize w.drew = w1 at *
   have hne := hd.ne
   go_wp2_with (at_mapUpdate; go_must (refine wpList_mapUpdate_own _ rfl _ _ _ 61 rfl 3 3 int_law Tryz.underlying61 _ b M.length (lmD M) rfl hd.2 (by unfold maxLen; omega) (.int .i64 id) (.int .i64 (v + n)) (ilit id) rfl rfl (int_key hk) (.lit (ilit (v + n))) [] (plainElem_int Tryz.underlying3 (wf_i64_mk (by omega) (by omega))) ?_; intro w2 hown2 hg2; rw [lm_put] at hown2; have hI2 := Imap.of hown2; have hB2 := hd.1.grown hg2 (by simp; omega); have hc2 := hcd.grown hg2 (fun k hk _ => by simpa using hk.symm); have hl2 := hI2.look hk; rw [lmGet_put] at hl2; have c2 := hB2.cell 0; simp at c2; clear hown2 hg2))
   go_end0
   exact ⟨rfl, ⟨hB2, hI2⟩, hc2⟩
end Go.Proofs.YtohapcacckapoaaGreat
namespace Go.Proofs.YtohapcacckapoaaGreat
open Go Go.RowKit Go.Deep
def isNilSl : Value → Bool | .slice none 0 0 => true | _ => false
def isZ32 : Value → Bool | .int .i32 0 => true | _ => false
def isZ64 : Value → Bool | .int .i64 0 => true | _ => false
def isNilM : Value → Bool | .map none => true | _ => false
theorem isNilSl_eq {v : Value} (h : isNilSl v = true) : v = .slice none 0 0 := by
 unfold isNilSl at h
 split at h
 · rfl
 · cases h
theorem isZ32_eq {v : Value} (h : isZ32 v = true) : v = .int .i32 0 := by
 unfold isZ32 at h
 split at h
 · rfl
 · cases h
theorem isZ64_eq {v : Value} (h : isZ64 v = true) : v = .int .i64 0 := by
 unfold isZ64 at h
 split at h
 · rfl
 · cases h
theorem isNilM_eq {v : Value} (h : isNilM v = true) : v = .map none := by
 unfold isNilM at h
 split at h
 · rfl
 · cases h
def runOf (p : Value → Bool) (k : List Value → Bool) : Nat → List Value → Bool
 | 0, r => k r
 | _ + 1, [] => false
 | n + 1, x :: r => p x && runOf p k n r
theorem runOf_eq {p : Value → Bool} {k : List Value → Bool} {z : Value} (hp : ∀ v, p v = true → v = z) : ∀ (n : Nat) (l : List Value), runOf p k n l = true → ∃ r, l = List.replicate n z ++ r ∧ k r = true
 | 0, l, h => ⟨l, rfl, h⟩
 | n + 1, [], h => by cases h
 | n + 1, x :: r, h => by
  unfold runOf at h
  rw [Bool.and_eq_true] at h
  obtain ⟨q, e, hq⟩ := runOf_eq hp n r h.2
  refine ⟨q, ?_, hq⟩
  rw [hp x h.1, e, List.replicate_succ]
  rfl
def isEnd : List Value → Bool | [] => true | _ => false
def isWheel (l : List Value) : Bool := match l with
 | a :: b :: c :: r => isZ64 a && (isZ64 b && (isNilM c && runOf isNilSl (runOf isZ32 isEnd 4096) 64 r))
 | _ => false
def zcells (i : TypeInfo) : List Value := match i.zero with | some (.agg a) => a.toList | _ => []
set_option maxRecDepth 100000 in
theorem wheel_chk : isWheel (zcells Tryz.t210) = true := by kernel_rfl
def wzL : List Value := .int .i64 0 :: .int .i64 0 :: .map none :: (List.replicate 64 (.slice none 0 0) ++ List.replicate 4096 (.int .i32 0))
theorem wheel_cells : zcells Tryz.t210 = wzL := by
 have h := wheel_chk
 generalize zcells Tryz.t210 = l at *
 match l, h with
 | a :: b :: c :: r, h =>
  unfold isWheel at h
  simp only [Bool.and_eq_true] at h
  obtain ⟨h1, h2, h3, h4⟩ := h
  obtain ⟨q, e, h5⟩ := runOf_eq (fun v => isNilSl_eq) 64 r h4
  obtain ⟨q2, e2, h6⟩ := runOf_eq (fun v => isZ32_eq) 4096 q h5
  have e3 : q2 = [] := by
   cases q2 with
   | nil => rfl
   | cons x y => cases h6
  rw [isZ64_eq h1, isZ64_eq h2, isNilM_eq h3, e, e2, e3, List.append_nil]
  rfl
theorem wheel_zero : (Tryz.t210).zero = some (.agg wzL.toArray) := by
 have h := wheel_cells
 unfold zcells at h
 split at h
 ·
  rename_i a ha
  rw [ha, ← h]
 · cases h
theorem wzL_len : wzL.length = 4163 := by
 unfold wzL
 simp only [List.length_cons, List.length_append, List.length_replicate]
theorem wzL_row {k : Nat} (hk : k < 64) : wzL[3 + k]? = some (.slice none 0 0) := by
 unfold wzL
 rw [show 3 + k = k + 1 + 1 + 1 by omega]
 simp only [List.getElem?_cons_succ]
 rw [List.getElem?_append_left (by rw [List.length_replicate]; exact hk), List.getElem?_replicate, if_pos hk]
theorem wzL_at {k : Nat} (hk : k < 4096) : wzL[67 + k]? = some (.int .i32 0) := by
 unfold wzL
 rw [show 67 + k = (64 + k) + 1 + 1 + 1 by omega]
 simp only [List.getElem?_cons_succ]
 rw [List.getElem?_append_right (by rw [List.length_replicate]; omega), List.length_replicate, Nat.add_sub_cancel_left, List.getElem?_replicate, if_pos hk]
theorem zero_wheel (w : World) : (zeroValue 210).run Tryz.prog w = .ok (.agg wzL.toArray) w := by
 have h := wheel_zero
 generalize wzL.toArray = Z at *
 simp only [zeroValue, Sem.run_bind, Tryz.typeInfo210, Result.andThen_ok, h, Sem.run_pure]
theorem wplaces : ∃ F : Array Field, Tryz.prog.underlying 210 = some (.struct F) ∧ ∀ w : World, (F.mapM fun (f : Field) => (do pure (f.offset, ← sizeOf f.type) : Sem (Nat × Nat))).run Tryz.prog w = .ok #[(0, 1), (1, 1), (2, 1), (3, 64), (67, 4096)] w :=
 ⟨_, Tryz.underlying210, fun w => by kernel_rfl⟩
theorem run_build_wheel (G : Int) (bm : Nat) (w : World) : (Instr.build 210 #[(0, .int .i64 G), (2, .map (some bm))]).run Tryz.prog w = .ok (.agg ((wzL.toArray.setIfInBounds 0 (.int .i64 G)).setIfInBounds 2 (.map (some bm)))) w := by
 have hz := zero_wheel
 obtain ⟨F, hF, hp⟩ := wplaces
 have hu := fun w => run_underlying hF w
 have hs : wzL.toArray.size = 4163 := by rw [List.size_toArray]; exact wzL_len
 generalize wzL.toArray = Z at *
 simp only [Instr.build, Sem.run_bind, hz, Result.andThen_ok, hu, hp]
 simp [Instr.fill, Value.cells, hs]
end Go.Proofs.YtohapcacckapoaaGreat
