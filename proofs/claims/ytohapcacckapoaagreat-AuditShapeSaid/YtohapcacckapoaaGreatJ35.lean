/- tables: tables in parts, in memory: told by their blocks. -/
import Derived.Test.YtohapcacckapoaaGreatJ33
import Derived.Test.YtohapcacckapoaaGreatJ34
import Derived.Test.YtohapcacckapoaaGreatJ24
namespace Go.Proofs.YtohapcacckapoaaGreat
open Go Go.RowKit Go.Deep Go.Maps Go.ChangeMaps
structure TRule where
 wd : Bool
 sl : Int
 gn : Int
 ka : Int
 kb : Int
 np : Int
 a : Int
 b : Int
 c : Int
 d : Int
 G : Int
abbrev TRule.cells (r : TRule) : List Value := [.bool r.wd, .int .i64 r.sl, .int .i64 r.gn, .int .u64 r.ka, .int .u64 r.kb, .int .i64 r.np, .int .i64 r.a, .int .i64 r.b, .int .i64 r.c, .int .i64 r.d, .int .i64 r.G]
abbrev TRule.val (r : TRule) : Value := .agg r.cells.toArray
abbrev TRule.cfg (r : TRule) : TCfg := ⟨r.a, r.b, r.c, r.d, r.G⟩
def ruleOk (r : TRule) : Bool := layOk r.wd r.sl r.gn && decide (1 ≤ r.np ∧ r.np ≤ 16) && rightS r.a r.b r.c r.d && decide (1 ≤ r.G ∧ r.G ≤ 1024)
def updS (S : Nat → TSt) (i : Nat) (s : TSt) : Nat → TSt := fun j => if j = i then s else S j
theorem updS_self (S : Nat → TSt) (i : Nat) (s : TSt) : updS S i s i = s := if_pos rfl
theorem updS_ne (S : Nat → TSt) {i j : Nat} (s : TSt) (h : j ≠ i) : updS S i s j = S j := if_neg h
def updX (Xs : Nat → Nat → Prop) (i : Nat) (Y : Nat → Prop) : Nat → Nat → Prop := fun j => if j = i then Y else Xs j
theorem updX_self (Xs : Nat → Nat → Prop) (i : Nat) (Y : Nat → Prop) : updX Xs i Y i = Y := if_pos rfl
theorem updX_ne (Xs : Nat → Nat → Prop) {i j : Nat} (Y : Nat → Prop) (h : j ≠ i) : updX Xs i Y j = Xs j := if_neg h
structure TabsW (w : World) (g : Nat) (r : TRule) (p n : Nat) (S : Nat → TSt) (X : Nat → Prop) (pb q : Nat) (gs sbs : Nat → Nat) (Xs : Nat → Nat → Prop) : Prop where
 blk : Blk w g 193 #[.bool r.wd, .int .i64 r.sl, .int .i64 r.gn, .int .u64 r.ka, .int .u64 r.kb, .int .i64 r.np, .int .i64 r.a, .int .i64 r.b, .int .i64 r.c, .int .i64 r.d, .int .i64 r.G, .slice (some ⟨pb, 0, none⟩) p q]
 ps : ∀ i, i < p → w.cell? ⟨pb, i, none⟩ = some (.pointer (some ⟨gs i, 0, none⟩))
 tab : ∀ i, i < p → TabP w (gs i) (sbs i) n r.cfg (S i) (Xs i)
 off : ∀ i, i < p → ∀ y, Xs i y → y ≠ g ∧ y ≠ pb
 dis : ∀ i j, i < p → j < p → i ≠ j → ∀ y, Xs i y → ¬ Xs j y
 all : ∀ y, X y ↔ y = g ∨ y = pb ∨ ∃ i, i < p ∧ Xs i y
 pbl : pb < w.heap.size
 np : r.np = (p : Int)
 p1 : 1 ≤ p
 p16 : p ≤ 16
def TabsP (w : World) (g : Nat) (r : TRule) (p n : Nat) (S : Nat → TSt) (X : Nat → Prop) : Prop := ∃ (pb q : Nat) (gs sbs : Nat → Nat) (Xs : Nat → Nat → Prop), TabsW w g r p n S X pb q gs sbs Xs
def TabsTo (w w' : World) (g : Nat) (r : TRule) (p n : Nat) (S : Nat → TSt) (X : Nat → Prop) : Prop :=
 ∃ X', TabsP w' g r p n S X' ∧ Chg X w w' ∧ ∀ y, X' y → X y ∨ w.heap.size ≤ y
section
variable {w w' w1 w2 : World} {g p n pb q : Nat} {r : TRule} {S S' : Nat → TSt} {X F : Nat → Prop} {gs sbs : Nat → Nat} {Xs : Nat → Nat → Prop}
theorem TabsW.lt (h : TabsW w g r p n S X pb q gs sbs Xs) {y : Nat} (hy : X y) : y < w.heap.size := by
 rcases (h.all y).1 hy with rfl | rfl | ⟨i, hi, hx⟩
 · exact h.blk.lt
 · exact h.pbl
 · exact (h.tab i hi).lt hx
theorem TabsW.chg (h : TabsW w g r p n S X pb q gs sbs Xs) (k : Chg F w w') (hd : ∀ y, X y → ¬ F y) : TabsW w' g r p n S X pb q gs sbs Xs where
 blk := h.blk.chg k (hd _ ((h.all _).2 (.inl rfl)))
 ps := fun i hi => (cell_chg k (a := ⟨pb, i, none⟩) h.pbl (hd _ ((h.all _).2 (.inr (.inl rfl))))).trans (h.ps i hi)
 tab := fun i hi => (h.tab i hi).chg k fun y hy => hd y ((h.all y).2 (.inr (.inr ⟨i, hi, hy⟩)))
 off := h.off
 dis := h.dis
 all := h.all
 pbl := by have := k.size; have := h.pbl; omega
 np := h.np
 p1 := h.p1
 p16 := h.p16
theorem TabsW.call (h : TabsW w g r p n S X pb q gs sbs Xs) (hb : Below w.heap.size w w') : TabsW w' g r p n S X pb q gs sbs Xs := h.chg (F := fun _ => False) (Chg.of_below hb) (fun _ _ h => h)
theorem TabsW.gX (h : TabsW w g r p n S X pb q gs sbs Xs) : X g := (h.all g).2 (.inl rfl)
theorem TabsW.pX (h : TabsW w g r p n S X pb q gs sbs Xs) : X pb := (h.all pb).2 (.inr (.inl rfl))
theorem TabsW.iX (h : TabsW w g r p n S X pb q gs sbs Xs) {i : Nat} (hi : i < p) : ∀ y, Xs i y → X y := fun y hy => (h.all y).2 (.inr (.inr ⟨i, hi, hy⟩))
theorem TabsW.part (h : TabsW w g r p n S X pb q gs sbs Xs) {i : Nat} (hi : i < p) {s' : TSt} (t : TabTo w w' (gs i) (sbs i) n r.cfg s' (Xs i)) : ∃ (Xs' : Nat → Nat → Prop) (X' : Nat → Prop), TabsW w' g r p n (updS S i s') X' pb q gs sbs Xs' ∧ Chg X w w' ∧ ∀ y, X' y → X y ∨ w.heap.size ≤ y := by
 have hgl := h.blk.lt
 have hpl := h.pbl
 obtain ⟨Y', k1, k2, k3⟩ := t
 have hz := k2.size
 refine ⟨updX Xs i Y', fun y => y = g ∨ y = pb ∨ ∃ j, j < p ∧ updX Xs i Y' j y, ⟨h.blk.chg k2 fun hy => (h.off i hi g hy).1 rfl, fun j hj => (cell_chg k2 (a := ⟨pb, j, none⟩) h.pbl (fun hy => (h.off i hi pb hy).2 rfl)).trans (h.ps j hj), fun j hj => ?_, fun j hj y hy => ?_, fun j m hj hm hne y hy hy2 => ?_, fun y => Iff.rfl, by omega, h.np, h.p1, h.p16⟩, k2.mono fun y _ hy => h.iX hi y hy, fun y hy => ?_⟩
 ·
  by_cases e : j = i
  ·
   subst e
   rw [updS_self, updX_self]
   exact k1
  ·
   rw [updS_ne S s' e, updX_ne Xs Y' e]
   exact (h.tab j hj).chg k2 fun y hy hx => h.dis j i hj hi e y hy hx
 ·
  by_cases e : j = i
  ·
   subst e
   rw [updX_self] at hy
   rcases k3 y hy with h1 | h1
   · exact h.off j hi y h1
   · exact ⟨by omega, by omega⟩
  ·
   rw [updX_ne Xs Y' e] at hy
   exact h.off j hj y hy
 ·
  by_cases e : j = i
  ·
   subst e
   rw [updX_self] at hy
   rw [updX_ne Xs Y' (fun h => hne h.symm)] at hy2
   rcases k3 y hy with h1 | h1
   · exact h.dis j m hi hm hne y h1 hy2
   ·
    have := (h.tab m hm).lt hy2
    omega
  ·
   rw [updX_ne Xs Y' e] at hy
   by_cases e2 : m = i
   ·
    subst e2
    rw [updX_self] at hy2
    rcases k3 y hy2 with h1 | h1
    · exact h.dis j m hj hi e y hy h1
    ·
     have := (h.tab j hj).lt hy
     omega
   ·
    rw [updX_ne Xs Y' e2] at hy2
    exact h.dis j m hj hm hne y hy hy2
 ·
  rcases hy with rfl | rfl | ⟨j, hj, hy⟩
  · exact .inl h.gX
  · exact .inl h.pX
  ·
   by_cases e : j = i
   ·
    subst e
    rw [updX_self] at hy
    rcases k3 y hy with h1 | h1
    · exact .inl (h.iX hi y h1)
    · exact .inr h1
   ·
    rw [updX_ne Xs Y' e] at hy
    exact .inl (h.iX hj y hy)
theorem TabsP.lt (h : TabsP w g r p n S X) {y : Nat} (hy : X y) : y < w.heap.size := by
 obtain ⟨pb, q, gs, sbs, Xs, h⟩ := h
 exact h.lt hy
theorem TabsP.chg (h : TabsP w g r p n S X) (k : Chg F w w') (hd : ∀ y, X y → ¬ F y) : TabsP w' g r p n S X := by
 obtain ⟨pb, q, gs, sbs, Xs, h⟩ := h
 exact ⟨pb, q, gs, sbs, Xs, h.chg k hd⟩
theorem TabsP.call (h : TabsP w g r p n S X) (hb : Below w.heap.size w w') : TabsP w' g r p n S X := h.chg (F := fun _ => False) (Chg.of_below hb) (fun _ _ h => h)
theorem TabsP.rng (h : TabsP w g r p n S X) : r.np = (p : Int) ∧ 1 ≤ p ∧ p ≤ 16 := by
 obtain ⟨pb, q, gs, sbs, Xs, h⟩ := h
 exact ⟨h.np, h.p1, h.p16⟩
theorem TabsTo.of (h : TabsP w1 g r p n S X) (k : Chg X w w1) : TabsTo w w1 g r p n S X := ⟨X, h, k, fun _ h => .inl h⟩
theorem TabsTo.trans (t : TabsTo w w1 g r p n S X) (k : ∀ X1, TabsP w1 g r p n S X1 → TabsTo w1 w2 g r p n S' X1) : TabsTo w w2 g r p n S' X := by
 obtain ⟨X1, h1, h2, h3⟩ := t
 obtain ⟨X2, k1, k2, k3⟩ := k X1 h1
 have hz := h2.size
 refine ⟨X2, k1, h2.trans k2 fun y hy hx => ?_, fun y hy => ?_⟩
 ·
  rcases h3 y hx with h | h
  · exact h
  · omega
 ·
  rcases k3 y hy with h | h
  · exact h3 y h
  · exact .inr (by omega)
theorem TabsTo.call (t : TabsTo w w1 g r p n S X) (hb : Below w1.heap.size w1 w2) : TabsTo w w2 g r p n S X :=
 t.trans fun _ h1 => ⟨_, h1.call hb, Chg.of_below hb, fun _ h => .inl h⟩
theorem TabsTo.ofBelow (h : TabsP w g r p n S X) (hb : Below w.heap.size w w1) : TabsTo w w1 g r p n S X := (TabsTo.of h (Chg.refl _ _)).call hb
end
end Go.Proofs.YtohapcacckapoaaGreat
