/- A region that draws its order, walked operation by operation. A region that draws its order, walked operation by operation: an operation whose guard says no. -/
import Derived.Test.YtohapcacckapoaaGreatJ2
import Derived.Deep.RegionHeld3
import Derived.Maps.RangeWalk
namespace Go.Proofs.YtohapcacckapoaaGreat
open Go Go.RowKit
def nthO : List Oper → Nat → Option Oper
 | [], _ => none
 | a :: _, 0 => some a
 | _ :: l, n + 1 => nthO l n
theorem nthO_eq : ∀ (l : List Oper) (n : Nat), nthO l n = l[n]?
 | [], _ => by simp [nthO]
 | _ :: _, 0 => by simp [nthO]
 | _ :: l, n + 1 => by simp [nthO, nthO_eq l n]
section
variable {P : Program} {os : List Oper} {Q : Exit → Act → World → Prop} {md : Region.Mode} {S : World → Prop}
theorem takeH (i : Nat) {oi : Oper} {v : Value} {fuel : Nat} {listed : Array Bool} {a : Act} {w : World} (hi : nthO os i = some oi)
  (hs : Region.noSelect os.toArray = true) (hf : Region.free md os.toArray listed i = true) (hr : (Region.ready md os.toArray listed).contains i = true)
  (hQ : ∀ c a w, Q (.panic c) (a.put oi.dst v) w → Q (.panic c) a w) (hy : YieldsIf P os.toArray S oi v a) (hS : S w)
  (h : wpAnyH P md os.toArray Q S fuel (listed.setIfInBounds i true) (a.put oi.dst v) w) : wpAnyH P md os.toArray Q S (fuel + 1) listed a w :=
 wpAnyH_take (by rw [List.getElem?_toArray, ← nthO_eq]; exact hi) hs hf hr hQ hy hS h
def okB (md : Region.Mode) (ops : Array Oper) (listed : Array Bool) (i : Nat) : Bool := Region.noSelect ops && (Region.free md ops listed i && (Region.ready md ops listed).contains i)
theorem tk (i : Nat) {oi : Oper} {v : Value} {fuel : Nat} {listed : Array Bool} {a : Act} {w : World} (hi : nthO os i = some oi) (hw : Region.wanted oi (yielded os.toArray a.tmps) = true) (hy : ∀ w, S w → (execOp a.eval oi).run P w = .ok (.value v) w)
  (h : wpAnyH P md os.toArray Q S fuel (listed.setIfInBounds i true) (a.put oi.dst v) w) (hc : okB md os.toArray listed i = true := by kernel_rfl) (hQ : ∀ c a w, Q (.panic c) (a.put oi.dst v) w → Q (.panic c) a w := by exact fun _ _ _ h => h) (hS : S w := by assumption) : wpAnyH P md os.toArray Q S (fuel + 1) listed a w := by
 unfold okB at hc
 simp only [Bool.and_eq_true] at hc
 exact takeH i hi hc.1 hc.2.1 hc.2.2 hQ (Or.inl ⟨hw, hy⟩) hS h
theorem consH {fuel : Nat} {listed : Array Bool} {a : Act} {w : World} {i : Nat} {o : Oper} {rs : List Nat} (ho : nthO os i = some o)
  (h : ∀ K' : Act → World → Prop, Shut (∀ a w, S w → (S w → wpAnyH P md os.toArray Q S fuel (listed.setIfInBounds i true) a w) → K' a w) → if Region.wanted o (yielded os.toArray a.tmps) = true then Oper.wp P o a w K' Q else K' (a.put o.dst undef) w)
  (hs : AllReadyH P md os.toArray Q S fuel listed a w rs) : AllReadyH P md os.toArray Q S fuel listed a w (i :: rs) :=
 AllReadyH.cons (by rw [List.getElem?_toArray, ← nthO_eq]; exact ho) h hs
end
section
variable {P : Program} {os : List Oper} {Q : Exit → Act → World → Prop} {md : Region.Mode} {S : World → Prop}
theorem tn (i : Nat) {oi : Oper} {fuel : Nat} {listed : Array Bool} {a : Act} {w : World} (hi : nthO os i = some oi) (hw : Region.wanted oi (yielded os.toArray a.tmps) = false)
  (h : wpAnyH P md os.toArray Q S fuel (listed.setIfInBounds i true) (a.put oi.dst undef) w) (hc : okB md os.toArray listed i = true := by kernel_rfl) (hQ : ∀ c a w, Q (.panic c) (a.put oi.dst undef) w → Q (.panic c) a w := by exact fun _ _ _ h => h) (hS : S w := by assumption) : wpAnyH P md os.toArray Q S (fuel + 1) listed a w := by
 unfold okB at hc
 simp only [Bool.and_eq_true] at hc
 exact takeH i hi hc.1 hc.2.1 hc.2.2 hQ (Or.inr ⟨hw, rfl⟩) hS h
end
end Go.Proofs.YtohapcacckapoaaGreat
