/- sort: worlds that draws and blocks laid behind make; a row of numbers before and after a sort. -/
import Derived.Test.YtohapcacckapoaaGreatJ9
import Derived.Shelf.SlSortCmp.Whole1
namespace Go.Proofs.YtohapcacckapoaaGreat
open Go Go.RowKit Go.Deep
theorem gr_of1 {w w' : World} (hb : Below w.heap.size w w') (hd : w.drawn ≤ w'.drawn) : ∃ q os, w' = Sort.grow (w.drewN q) os := by
 refine ⟨w'.drawn - w.drawn, w'.heap.extract w.heap.size w'.heap.size, ?_⟩
 obtain ⟨h1, h2, h3, h4, h5⟩ := hb
 have hh : w'.heap = w.heap ++ w'.heap.extract w.heap.size w'.heap.size := by
  apply Array.ext_getElem?
  intro i
  rw [Array.getElem?_append]
  split
  ·
   rename_i hi
   exact h5 i hi
  ·
   rename_i hi
   rw [Array.getElem?_extract]
   split
   ·
    congr 1
    omega
   ·
    rename_i hj
    rw [Array.getElem?_eq_none]
    omega
 cases w
 cases w'
 simp only [Sort.grow, World.drewN] at *
 simp only [World.mk.injEq]
 refine ⟨hh, h2, by omega, h1, h3⟩
section
variable {α : Type} [Inhabited α] {f : α → Int}
abbrev encI (f : α → Int) (x : α) : Value := .int .i64 (f x)
theorem own_holds1 {w : World} {base gp cap : Nat} {l : List α} (h : OwnI w base (some ⟨gp, 0, none⟩) cap (l.map f)) : Sort.Holds (encI f) w gp 0 l.toArray := by
 intro j hj
 have hj' : j < l.length := by simpa using hj
 have f1 := h.cellAt j (by simpa using hj')
 rw [icell_map, List.getElem?_map, List.getElem?_map, List.getElem?_eq_getElem hj'] at f1
 rw [Nat.zero_add]
 refine ⟨?_, h.frozenAt j⟩
 rw [f1]
 simp [hj']
theorem holds_reads1 {w : World} {gp : Nat} {d : Array α} (h : Sort.Holds (encI f) w gp 0 d) (hb : gp < w.heap.size) : Reads w w.heap.size 1 (some ⟨gp, 0, none⟩) d.size ((d.toList.map f).map (.int .i64)) := by
 refine ⟨by simp, fun _ => ⟨_, rfl, hb, fun j u hu => ?_⟩⟩
 have hj : j < d.size := by
  have := (List.getElem?_eq_some_iff.1 hu).1
  simpa using this
 have k := (h j hj).1
 rw [Nat.zero_add] at k
 have eb : (⟨gp, 0, none⟩ : Addr).add j = ⟨gp, j, none⟩ := by
  simp [Addr.add]
  intro h
  omega
 rw [eb, k, ← hu]
 simp [hj]
theorem sortW_chg1 {enc : α → Value} {w : World} {gp n : Nat} {d : Array α} {os : Array Obj} : Chg (· = gp) w (sortWorld enc w gp 0 n d os) := by
 have hs : (Sort.putRow enc (Sort.ahead w n) gp 0 d).heap.size = w.heap.size := by
  unfold Sort.putRow Sort.mapBlock
  show ((Sort.ahead w n).heap.modify gp _).size = _
  rw [Array.size_modify]
  rfl
 refine ⟨rfl, rfl, rfl, ?_, fun b hb hF => ?_⟩
 ·
  unfold sortWorld
  rw [Sort.size_grow, hs]
  omega
 unfold sortWorld
 have hz : b < (Sort.putRow enc (Sort.ahead w n) gp 0 d).heap.size := by rw [hs]; exact hb
 rw [Sort.heap_grow_old _ _ hz]
 unfold Sort.putRow Sort.mapBlock
 show ((Sort.ahead w n).heap.modify gp _)[b]? = w.heap[b]?
 rw [Array.getElem?_modify, if_neg (fun e => hF e.symm)]
 rfl
end
end Go.Proofs.YtohapcacckapoaaGreat
