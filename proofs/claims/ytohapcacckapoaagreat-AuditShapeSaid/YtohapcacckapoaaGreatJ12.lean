/- A struct or an array loaded and stored whole, anywhere in a block that is known. -/
import Derived.Test.YtohapcacckapoaaGreatJ9
import Derived.Test.YtohapcacckapoaaGreatJ5
import Derived.Deep.MidRow
namespace Go.Proofs.YtohapcacckapoaaGreat
open Go Go.RowKit Go.Deep Go.Maps Go.ChangeMaps
def overL : List Value → List Value → List Value
 | [], _ => []
 | x :: l, [] => x :: l
 | _ :: l, v :: r => v :: overL l r
def setL : List Value → Nat → List Value → List Value
 | l, 0, vs => overL l vs
 | [], _ + 1, _ => []
 | x :: l, n + 1, vs => x :: setL l n vs
theorem overL_nil (l : List Value) : overL l [] = l := by cases l <;> rfl
theorem setL_nil : ∀ (l : List Value) (o : Nat), setL l o [] = l
 | l, 0 => by rw [setL]; exact overL_nil l
 | [], _ + 1 => rfl
 | x :: l, n + 1 => by rw [setL, setL_nil l n]
theorem setL_cons (v : Value) (r : List Value) : ∀ (l : List Value) (o : Nat), setL l o (v :: r) = setL (l.set o v) (o + 1) r
 | [], 0 => by cases r <;> rfl
 | [], _ + 1 => rfl
 | x :: l, 0 => by cases l <;> rfl
 | x :: l, n + 1 => by
  rw [List.set_cons_succ, setL, setL_cons v r l n]
  rfl
abbrev setA (cs : Array Value) (o : Nat) (vs : List Value) : Array Value := (setL cs.toList o vs).toArray
section
variable {w : World} {b o : Nat} {t : TypeId} {cs : Array Value}
theorem Blk.range (h : Blk w b t cs) {vs : List Value} (hs : (cs.toList.drop o).take vs.length = vs) : w.rangeAt b o vs := fun j v hv => by
 have hj : j < vs.length := (List.getElem?_eq_some_iff.1 hv).1
 have e := congrArg (fun l : List Value => l[j]?) hs
 rw [List.getElem?_take_of_lt hj, List.getElem?_drop, Array.getElem?_toList] at e
 rw [h.cell (o + j), e, hv]
theorem Blk.thereB (h : Blk w b t cs) {n : Nat} (hs : o + n ≤ cs.size) : w.there b o n := fun j hj => by
 refine ⟨?_, h.frozen _⟩
 rw [h.cell, Array.getElem?_eq_getElem (by omega)]
 rfl
theorem Blk.setCells : ∀ (vs : List Value) {w : World} {cs : Array Value} (o : Nat), Blk w b t cs → Blk (w.setCells b o vs) b t (setA cs o vs)
 | [], _, cs, o, h => by
  unfold setA
  rw [setL_nil]
  exact h
 | v :: r, w, cs, o, h => by
  have := Blk.setCells r (o + 1) (h.set_ o v)
  unfold setA at this ⊢
  rw [Array.toList_setIfInBounds, ← setL_cons] at this
  exact this
theorem chg_setCellsB (b : Nat) : ∀ (vs : List Value) (w w0 : World) (o : Nat), Chg (· = b) w0 w → Chg (· = b) w0 (w.setCells b o vs)
 | [], _, _, _, h => h
 | v :: r, w, w0, o, h => by
  rw [World.setCells]
  exact chg_setCellsB b r _ _ (o + 1) (Chg.setCell (p := ⟨b, o, none⟩) h (fun _ => rfl) v)
theorem size_setCellsB (b : Nat) : ∀ (vs : List Value) (w : World) (o : Nat), (w.setCells b o vs).heap.size = w.heap.size
 | [], _, _ => rfl
 | v :: r, w, o => by
  rw [World.setCells, size_setCellsB b r]
  simp [World.setCell]
end
section
variable {P : Program} {ops : Array Oper} {rest : List Oper} {op : Oper} {a : Act} {w : World} {Q : Exit → Act → World → Prop} {K : Act → World → Prop}
theorem wp_load_blk (ty : TypeId) (x : Operand) (ho : op.op = .load ty x) (b o : Nat) (hx : a.eval x = .pointer (some ⟨b, o, none⟩)) {t : TypeId} {cs : Array Value} (hB : Blk w b t cs) (vs : List Value) (hs : (cs.toList.drop o).take vs.length = vs) (d : TypeDesc)
  (hu : P.underlying ty = some d) (hd : d.isRow = true) (hi : (P.info? ty).map (·.size) = some vs.length) (h : K (a.put op.dst (.agg vs.toArray)) w) : op.wp P a w K Q :=
 wp_load_mid ty x ho b o hx vs d (hB.range hs) hu hd hi h
theorem wpList_load_blk (hgd : op.guard = none) (ty : TypeId) (x : Operand) (ho : op.op = .load ty x) (b o : Nat) (hx : a.eval x = .pointer (some ⟨b, o, none⟩)) {t : TypeId} {cs : Array Value} (hB : Blk w b t cs) (vs : List Value) (hs : (cs.toList.drop o).take vs.length = vs) (d : TypeDesc)
  (hu : P.underlying ty = some d) (hd : d.isRow = true) (hi : (P.info? ty).map (·.size) = some vs.length) (h : wpList P ops Q rest (a.put op.dst (.agg vs.toArray)) w) : wpList P ops Q (op :: rest) a w :=
 wpList_plain hgd fun _ hK => wp_load_blk ty x ho b o hx hB vs hs d hu hd hi (hK _ _ h)
theorem wp_store_blk (ty : TypeId) (x y : Operand) (ho : op.op = .store ty x y) (b o : Nat) (hx : a.eval x = .pointer (some ⟨b, o, none⟩)) {t : TypeId} {cs : Array Value} (hB : Blk w b t cs) (vs : List Value) (hy : a.eval y = .agg vs.toArray) (hl : o + vs.length ≤ cs.size)
  (hi : (P.info? ty).map (·.size) = some vs.length) (h1 : vs.all (·.oneCell') = true) (h : ∀ w', Blk w' b t (setA cs o vs) → Chg (· = b) w w' → w'.heap.size = w.heap.size → K (a.put op.dst undef) w') : op.wp P a w K Q :=
 wp_store_mid ty x y ho b o vs.toArray hx hy (by simpa using hB.thereB hl) (by simpa using hi) (all_oneCell_toArray fun v hv => List.all_eq_true.1 h1 v hv)
  (by simpa using h _ (hB.setCells vs o) (chg_setCellsB b vs w w o (Chg.refl _ _)) (size_setCellsB b vs w o))
theorem wpList_store_blk (hgd : op.guard = none) (hdst : op.dst = none) (ty : TypeId) (x y : Operand) (ho : op.op = .store ty x y) (b o : Nat) (hx : a.eval x = .pointer (some ⟨b, o, none⟩)) {t : TypeId} {cs : Array Value} (hB : Blk w b t cs) (vs : List Value) (hy : a.eval y = .agg vs.toArray) (hl : o + vs.length ≤ cs.size)
  (hi : (P.info? ty).map (·.size) = some vs.length) (h1 : vs.all (·.oneCell') = true) (h : ∀ w', Blk w' b t (setA cs o vs) → Chg (· = b) w w' → w'.heap.size = w.heap.size → wpList P ops Q rest a w') : wpList P ops Q (op :: rest) a w :=
 wpList_plain hgd fun _ hK => wp_store_blk ty x y ho b o hx hB vs hy hl hi h1 fun w' k1 k2 k3 => by rw [hdst]; exact hK _ _ (h w' k1 k2 k3)
end
section
variable {P : Program}
theorem loadVar_blk {W : World} {q o : Nat} {t : TypeId} {cs : Array Value} (ty : TypeId) (hB : Blk W q t cs) (vs : List Value) (hs : (cs.toList.drop o).take vs.length = vs) (d : TypeDesc)
  (hu : P.underlying ty = some d) (hd : d.isRow = true) (hi : (P.info? ty).map (·.size) = some vs.length) : (loadVar ty ⟨q, o, none⟩).run P W = .ok (.agg vs.toArray) W :=
 run_loadVar_mid W q o ty vs d (hB.range hs) hu hd hi
theorem results_cell {fn : Func} {F : Array Value} {W : World} {i : Nat} {ty : TypeId} {q : Nat} {v : Value} (hr : fn.results = #[.cell i ty]) (hF : F[i]? = some (.pointer (some ⟨q, 0, none⟩))) (hl : (loadVar ty ⟨q, 0, none⟩).run P W = .ok v W) : Sem.run P (results fn F) W = .ok v W := by
 unfold results
 rw [hr]
 generalize loadVar = LV at *
 simp [go_sem, hF, hl]
end
end Go.Proofs.YtohapcacckapoaaGreat
