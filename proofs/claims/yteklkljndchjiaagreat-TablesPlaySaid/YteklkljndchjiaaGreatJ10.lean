/- load: the counts as a list of pairs; New, given, Get. load: Add, Less. wheel: the struct of many cells. -/
import Derived.Test.YteklkljndchjiaaGreatJ9
import Derived.Maps.OwnSet
import Derived.Maps.OwnOps
import Derived.Deep.QuietTactic
import Derived.BigQuiet
import Derived.StillTailTactics
namespace Go.Proofs.YteklkljndchjiaaGreat
open Go Go.RowKit Go.Deep Go.Maps Go.ChangeMaps
abbrev LM := List (Int × Int)
def ilit (n : Int) : Lit := .int .i64 n
def lmE (M : LM) : List (Lit × DataW Unit) := M.map fun x => (ilit x.1, .lit (ilit x.2))
def lmD (M : LM) : DataW Unit := .map (lmE M)
def lmGet (M : LM) (id : Int) : Int := match M.find? (fun x => x.1 == id) with | some p => p.2 | none => 0
def lmDel (M : LM) (id : Int) : LM := M.filter fun x => !(x.1 == id)
def lmIns (x : Int × Int) : LM → LM
 | [] => [x]
 | y :: r => if x.1 < y.1 then x :: y :: r else y :: lmIns x r
def lmPut (M : LM) (id v : Int) : LM := lmIns (id, v) (lmDel M id)
theorem ilit_same (a b : Int) : (ilit a).sameKey (ilit b) = (a == b) := by
 simp only [ilit, Lit.sameKey]
 by_cases h : a = b <;> simp [h]
theorem lm_at (M : LM) (id : Int) : (lmD M).atKey (ilit id) (.lit (ilit 0)) = .lit (ilit (lmGet M id)) := by
 simp only [lmD, DataW.atKey, lmGet, lmE]
 induction M with
 | nil => rfl
 | cons x M ih =>
  rw [List.map_cons, List.find?_cons, List.find?_cons]
  rw [show (ilit x.1).sameKey (ilit id) = (x.1 == id) from ilit_same _ _]
  cases x.1 == id
  · exact ih
  · rfl
theorem lm_insert (x : Int × Int) : ∀ M : LM, DataW.insert (ilit x.1, .lit (ilit x.2)) (lmE M) = lmE (lmIns x M)
 | [] => rfl
 | y :: M => by
  show (if (ilit x.1).before (ilit y.1) then _ else _) = _
  have e : (ilit x.1).before (ilit y.1) = decide (x.1 < y.1) := rfl
  rw [e]
  unfold lmIns
  by_cases h : x.1 < y.1
  · rw [if_pos (by simpa using h), if_pos h]; rfl
  ·
   rw [if_neg (by simpa using h), if_neg h]
   show _ :: DataW.insert _ (lmE M) = _
   rw [lm_insert x M]; rfl
theorem lm_filter (M : LM) (id : Int) : (lmE M).filter (fun p => !p.1.sameKey (ilit id)) = lmE (lmDel M id) := by
 unfold lmE lmDel
 induction M with
 | nil => rfl
 | cons x M ih =>
  rw [List.map_cons, List.filter_cons, List.filter_cons]
  rw [show (ilit x.1).sameKey (ilit id) = (x.1 == id) from ilit_same _ _]
  cases x.1 == id
  · simp [ih]
  · simpa using ih
theorem lm_put (M : LM) (id v : Int) : (lmD M).put (ilit id) (.lit (ilit v)) = lmD (lmPut M id v) := by
 show DataW.map (DataW.insert (ilit id, .lit (ilit v)) ((lmE M).filter fun p => !p.1.sameKey (ilit id))) = _
 rw [lm_filter, lm_insert (id, v)]
 rfl
theorem lm_del (M : LM) (id : Int) : (lmD M).del (ilit id) = lmD (lmDel M id) := by
 show DataW.map ((lmE M).filter fun p => !p.1.sameKey (ilit id)) = _
 rw [lm_filter]; rfl
theorem lmDel_length (M : LM) (id : Int) : (lmDel M id).length ≤ M.length := List.length_filter_le _ _
theorem lmDel_del (M : LM) (id : Int) : lmDel (lmDel M id) id = lmDel M id := by simp [lmDel]
theorem lmGet_ins (id v : Int) : ∀ M : LM, (∀ x ∈ M, x.1 ≠ id) → lmGet (lmIns (id, v) M) id = v
 | [], _ => by simp [lmIns, lmGet]
 | y :: M, h => by
  unfold lmIns
  split
  · simp [lmGet]
  ·
   have hy : (y.1 == id) = false := by simpa using h y (by simp)
   have ih := lmGet_ins id v M fun x hx => h x (by simp [hx])
   unfold lmGet at ih ⊢
   rw [List.find?_cons, hy]
   exact ih
theorem lmGet_put (M : LM) (id v : Int) : lmGet (lmPut M id v) id = v := lmGet_ins id v _ fun x hx => by simpa using (List.mem_filter.1 hx).2
def Imap (w : World) (b : Nat) (M : LM) : Prop := w.ownsMap Tryz.prog 3 (plainElem Tryz.prog 3) b M.length (lmD M)
theorem Imap.of {w : World} {b n : Nat} {M : LM} (h : w.ownsMap Tryz.prog 3 (plainElem Tryz.prog 3) b n (lmD M)) : Imap w b M := by
 obtain ⟨es, clock, hb, F, _, hD⟩ := h
 refine ⟨es, clock, hb, F, ?_, hD⟩
 have e : es.size = ((es.toList.map (WideElems.rg Tryz.prog 3 (plainElem (H := Unit) Tryz.prog 3))).foldr DataW.insert []).length := by rw [length_sorted]; simp
 have e2 : lmE M = (es.toList.map (WideElems.rg Tryz.prog 3 (plainElem (H := Unit) Tryz.prog 3))).foldr DataW.insert [] := by simpa [lmD] using hD
 rw [e, ← e2]
 simp [lmE]
theorem int_law : Keyed Tryz.prog 3 := int_keyed Tryz.underlying3
theorem int_zero (w : World) : (zeroValue 3).run Tryz.prog w = .ok (.int .i64 0) w := by kernel_rfl
theorem int_key {id : Int} (h : (Lit.int .i64 id).wf = true) : keyOf Tryz.prog 3 (.int .i64 id) = some (ilit id) := keyOf_int_mk Tryz.underlying3 h
theorem Imap.look {w : World} {b : Nat} {M : LM} (h : Imap w b M) {id : Int} (hk : (Lit.int .i64 id).wf = true) :
  (Instr.lookup 161 (.map (some b)) (.int .i64 id) false).run Tryz.prog w = .ok (.int .i64 (lmGet M id)) w := by
 obtain ⟨c, hrun, hat, _⟩ := World.ownsMap.lookup_int h int_law Tryz.underlying161 Tryz.underlying3 (int_zero w) (int_key hk)
 have := (lm_at M id).symm.trans hat
 simp [ilit] at this
 rw [hrun, this]
def LoadAt (w : World) (g b : Nat) (M : LM) : Prop := Blk w g 163 #[.map (some b)] ∧ Imap w b M
theorem Imap.chg {F : Nat → Prop} {w w1 : World} {b : Nat} {M : LM} (h : Imap w b M) (k : Chg F w w1) (hg : ¬ F b) : Imap w1 b M := by
 have hlt := World.ownsMap.lt h
 obtain ⟨es, clock, hb, r⟩ := h
 exact ⟨es, clock, (k.block hlt hg).trans hb, r⟩
theorem Imap.call {w w1 : World} {b : Nat} {M : LM} (h : Imap w b M) (hb : Below w.heap.size w w1) : Imap w1 b M := by
 have hlt := World.ownsMap.lt h
 obtain ⟨es, clock, h1, r⟩ := h
 exact ⟨es, clock, (hb.block b hlt).trans h1, r⟩
theorem LoadAt.call {w w1 : World} {g b : Nat} {M : LM} (h : LoadAt w g b M) (hb : Below w.heap.size w w1) : LoadAt w1 g b M := ⟨h.1.call hb, h.2.call hb⟩
theorem LoadAt.lt {w : World} {g b : Nat} {M : LM} (h : LoadAt w g b M) : g < w.heap.size ∧ b < w.heap.size := ⟨h.1.lt, World.ownsMap.lt h.2⟩
def farI : Int := 1099511627776
def lmAdd (M : LM) (id n : Int) : LM := if n < -1099511627776 ∨ 1099511627776 < n then M else if min 1099511627776 (lmGet M id + n) ≤ 0 then lmDel M id else lmPut M id (min 1099511627776 (lmGet M id + n))
def lmPos (M : LM) : Prop := ∀ x ∈ M, 1 ≤ x.2 ∧ x.2 ≤ 1099511627776
theorem lmIns_mem {x y : Int × Int} : ∀ {M : LM}, y ∈ lmIns x M → y = x ∨ y ∈ M
 | [], h => by simpa [lmIns] using h
 | z :: M, h => by
  unfold lmIns at h
  split at h
  · simpa using h
  ·
   rcases List.mem_cons.1 h with h | h
   · exact .inr (by simp [h])
   ·
    rcases lmIns_mem h with h | h
    · exact .inl h
    · exact .inr (by simp [h])
theorem wf_i64_mk {n : Int} (h1 : -9223372036854775808 ≤ n) (h2 : n ≤ 9223372036854775807) : (Lit.int .i64 n).wf = true := by
 simp [Lit.wf, IntKind.min, IntKind.max, IntKind.bits, IntKind.signed]; omega
end Go.Proofs.YteklkljndchjiaaGreat
namespace Go.Proofs.YteklkljndchjiaaGreat
open Go Go.RowKit Go.Deep
def isNilSl : Value → Bool | .slice none 0 0 => true | _ => false
def isZ32 : Value → Bool | .int .i32 0 => true | _ => false
def isZ64 : Value → Bool | .int .i64 0 => true | _ => false
def isNilM : Value → Bool | .map none => true | _ => false
theorem isNilSl_eq {v : Value} (h : isNilSl v = true) : v = .slice none 0 0 := by
 unfold isNilSl at h
 split at h
 · rfl
 · cases h
theorem isZ32_eq {v : Value} (h : isZ32 v = true) : v = .int .i32 0 := by
 unfold isZ32 at h
 split at h
 · rfl
 · cases h
theorem isZ64_eq {v : Value} (h : isZ64 v = true) : v = .int .i64 0 := by
 unfold isZ64 at h
 split at h
 · rfl
 · cases h
theorem isNilM_eq {v : Value} (h : isNilM v = true) : v = .map none := by
 unfold isNilM at h
 split at h
 · rfl
 · cases h
def runOf (p : Value → Bool) (k : List Value → Bool) : Nat → List Value → Bool
 | 0, r => k r
 | _ + 1, [] => false
 | n + 1, x :: r => p x && runOf p k n r
theorem runOf_eq {p : Value → Bool} {k : List Value → Bool} {z : Value} (hp : ∀ v, p v = true → v = z) : ∀ (n : Nat) (l : List Value), runOf p k n l = true → ∃ r, l = List.replicate n z ++ r ∧ k r = true
 | 0, l, h => ⟨l, rfl, h⟩
 | n + 1, [], h => by cases h
 | n + 1, x :: r, h => by
  unfold runOf at h
  rw [Bool.and_eq_true] at h
  obtain ⟨q, e, hq⟩ := runOf_eq hp n r h.2
  refine ⟨q, ?_, hq⟩
  rw [hp x h.1, e, List.replicate_succ]
  rfl
def isEnd : List Value → Bool | [] => true | _ => false
def isWheel (l : List Value) : Bool := match l with
 | a :: b :: c :: r => isZ64 a && (isZ64 b && (isNilM c && runOf isNilSl (runOf isZ32 isEnd 4096) 64 r))
 | _ => false
def zcells (i : TypeInfo) : List Value := match i.zero with | some (.agg a) => a.toList | _ => []
set_option maxRecDepth 100000 in
theorem wheel_chk : isWheel (zcells Tryz.t212) = true := by kernel_rfl
def wzL : List Value := .int .i64 0 :: .int .i64 0 :: .map none :: (List.replicate 64 (.slice none 0 0) ++ List.replicate 4096 (.int .i32 0))
theorem wheel_cells : zcells Tryz.t212 = wzL := by
 have h := wheel_chk
 generalize zcells Tryz.t212 = l at *
 match l, h with
 | a :: b :: c :: r, h =>
  unfold isWheel at h
  simp only [Bool.and_eq_true] at h
  obtain ⟨h1, h2, h3, h4⟩ := h
  obtain ⟨q, e, h5⟩ := runOf_eq (fun v => isNilSl_eq) 64 r h4
  obtain ⟨q2, e2, h6⟩ := runOf_eq (fun v => isZ32_eq) 4096 q h5
  have e3 : q2 = [] := by
   cases q2 with
   | nil => rfl
   | cons x y => cases h6
  rw [isZ64_eq h1, isZ64_eq h2, isNilM_eq h3, e, e2, e3, List.append_nil]
  rfl
theorem wheel_zero : (Tryz.t212).zero = some (.agg wzL.toArray) := by
 have h := wheel_cells
 unfold zcells at h
 split at h
 ·
  rename_i a ha
  rw [ha, ← h]
 · cases h
theorem wzL_len : wzL.length = 4163 := by
 unfold wzL
 simp only [List.length_cons, List.length_append, List.length_replicate]
theorem wzL_row {k : Nat} (hk : k < 64) : wzL[3 + k]? = some (.slice none 0 0) := by
 unfold wzL
 rw [show 3 + k = k + 1 + 1 + 1 by omega]
 simp only [List.getElem?_cons_succ]
 rw [List.getElem?_append_left (by rw [List.length_replicate]; exact hk), List.getElem?_replicate, if_pos hk]
theorem wzL_at {k : Nat} (hk : k < 4096) : wzL[67 + k]? = some (.int .i32 0) := by
 unfold wzL
 rw [show 67 + k = (64 + k) + 1 + 1 + 1 by omega]
 simp only [List.getElem?_cons_succ]
 rw [List.getElem?_append_right (by rw [List.length_replicate]; omega), List.length_replicate, Nat.add_sub_cancel_left, List.getElem?_replicate, if_pos hk]
theorem zero_wheel (w : World) : (zeroValue 212).run Tryz.prog w = .ok (.agg wzL.toArray) w := by
 have h := wheel_zero
 generalize wzL.toArray = Z at *
 simp only [zeroValue, Sem.run_bind, Tryz.typeInfo212, Result.andThen_ok, h, Sem.run_pure]
theorem wplaces : ∃ F : Array Field, Tryz.prog.underlying 212 = some (.struct F) ∧ ∀ w : World, (F.mapM fun (f : Field) => (do pure (f.offset, ← sizeOf f.type) : Sem (Nat × Nat))).run Tryz.prog w = .ok #[(0, 1), (1, 1), (2, 1), (3, 64), (67, 4096)] w :=
 ⟨_, Tryz.underlying212, fun w => by kernel_rfl⟩
theorem run_build_wheel (G : Int) (bm : Nat) (w : World) : (Instr.build 212 #[(0, .int .i64 G), (2, .map (some bm))]).run Tryz.prog w = .ok (.agg ((wzL.toArray.setIfInBounds 0 (.int .i64 G)).setIfInBounds 2 (.map (some bm)))) w := by
 have hz := zero_wheel
 obtain ⟨F, hF, hp⟩ := wplaces
 have hu := fun w => run_underlying hF w
 have hs : wzL.toArray.size = 4163 := by rw [List.size_toArray]; exact wzL_len
 generalize wzL.toArray = Z at *
 simp only [Instr.build, Sem.run_bind, hz, Result.andThen_ok, hu, hp]
 simp [Instr.fill, Value.cells, hs]
end Go.Proofs.YteklkljndchjiaaGreat
