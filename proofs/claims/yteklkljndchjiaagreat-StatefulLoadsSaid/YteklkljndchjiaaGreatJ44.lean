/- tables: the document's Touch. tables: the document's tables while they are made. -/
import Derived.Test.YteklkljndchjiaaGreatJ43
import Derived.Test.YteklkljndchjiaaGreatJ42
import Derived.Test.YteklkljndchjiaaGreatJ40
namespace Go.Proofs.YteklkljndchjiaaGreat
open Go Go.RowKit Go.Deep Go.Maps Go.ChangeMaps
section
variable {w w' : World} {g p n : Nat} {r : TRule} {S : Nat → TSt} {X F : Nat → Prop}
end
abbrev pdcell (g : Nat) : List Value := [.pointer (some ⟨g, 0, none⟩)]
abbrev OwnD (w : World) (base : Nat) (A : Option Addr) (c : Nat) (l : List Nat) : Prop := OwnA pdcell 1 125 w base A c l
structure DMakeW (W : World) (D g : Nat) (r : TRule) (n k : Nat) (A : Option Addr) (c : Nat) (gs : Nat → Nat) (Xs : Nat → Nat → Prop) : Prop where
 blk : Blk W g 124 #[.bool r.wd, .int .i64 r.sl, .int .i64 r.gn, .int .u64 r.ka, .int .u64 r.kb, .int .i64 r.np, .int .i64 r.a, .int .i64 r.b, .int .i64 r.c, .int .i64 r.d, .int .i64 r.G, .slice A k c]
 own : OwnD W D A c ((List.range k).map gs)
 tab : ∀ i, i < k → DTabP W (gs i) n r.sl r.cfg (dOf n (sT0 n)) (Xs i)
 low : ∀ i, i < k → ∀ y, Xs i y → D ≤ y ∧ ¬ InB A y
 dis : ∀ i j, i < k → j < k → i ≠ j → ∀ y, Xs i y → ¬ Xs j y
 gD : g < D
 DW : D ≤ W.heap.size
section
variable {W W1 W2 W3 : World} {D g n k c c' g1 : Nat} {r : TRule} {A A' : Option Addr} {gs : Nat → Nat} {Xs : Nat → Nat → Prop} {X1 : Nat → Prop}
theorem DMakeW.call (h : DMakeW W D g r n k A c gs Xs) (hb : Below W.heap.size W W1) : DMakeW W1 D g r n k A c gs Xs :=
 ⟨h.blk.call hb, h.own.call hb, fun i hi => (h.tab i hi).chg (Chg.of_below (F := fun _ => False) hb) (fun _ _ h => h), h.low, h.dis, h.gD, by have := hb.size; have := h.DW; omega⟩
theorem DMakeW.step (h : DMakeW W D g r n k A c gs Xs) (hb : Below W.heap.size W W1) (hT : DTabP W1 g1 n r.sl r.cfg (dOf n (sT0 n)) X1) (hX : ∀ y, X1 y → W.heap.size ≤ y) (hO : OwnD W2 D A' c' ((List.range k).map gs ++ [g1])) (hP : Pushed W1 W2 A A') (h3 : W3 = W2.setCell ⟨g, 11, none⟩ (.slice A' (k + 1) c')) :
  ∃ gs' Xs', DMakeW W3 D g r n (k + 1) A' c' gs' Xs' := by
 subst h3
 have h1 := h.call hb
 have hDW := h.DW
 have hgD := h.gD
 have hz := hb.size
 have hzP := hP.chg.size
 have hAg : ∀ b, InB A b → D ≤ b ∧ b < W.heap.size := fun b hb => h.own.block hb
 have hA1 : ∀ b, InB A' b → D ≤ b := fun b hb => (hO.block hb).1
 have hset : Chg (· = g) W2 (W2.setCell ⟨g, 11, none⟩ (.slice A' (k + 1) c')) := (Chg.refl (· = g) W2).setCell (p := ⟨g, 11, none⟩) (fun _ => rfl) _
 have hmv : ∀ {g'} {Y : Nat → Prop}, DTabP W1 g' n r.sl r.cfg (dOf n (sT0 n)) Y → (∀ y, Y y → D ≤ y ∧ ¬ InB A y) → DTabP (W2.setCell ⟨g, 11, none⟩ (.slice A' (k + 1) c')) g' n r.sl r.cfg (dOf n (sT0 n)) Y := fun hY hl =>
  (hY.chg hP.chg fun y hy => (hl y hy).2).chg hset fun y hy e => by have := (hl y hy).1; have e3 : y = g := e; omega
 have hX1 : ∀ y, X1 y → D ≤ y ∧ ¬ InB A y := fun y hy => ⟨by have := hX y hy; omega, fun e => by have := hX y hy; have := (hAg y e).2; omega⟩
 refine ⟨fun j => if j = k then g1 else gs j, fun j => if j = k then X1 else Xs j, ?_, ?_, fun i hi => ?_, fun i hi y hy => ?_, fun i j hi hj hne y hy hy2 => ?_, hgD, ?_⟩
 ·
  have := (h1.blk.chg hP.chg (fun e => by have := (hAg _ e).1; omega)).set_ 11 (.slice A' (k + 1) c')
  simpa using this
 ·
  have e1 : (List.range (k + 1)).map (fun j => if j = k then g1 else gs j) = (List.range k).map gs ++ [g1] := by
   rw [List.range_succ, List.map_append]
   congr 1
   ·
    refine List.map_congr_left fun j hj => ?_
    have := List.mem_range.1 hj
    simp [show j ≠ k by omega]
   · simp
  rw [e1]
  exact hO.chg hset fun b hb e => by have := hA1 b hb; have e3 : b = g := e; omega
 ·
  by_cases e : i = k
  ·
   subst e
   simp only [if_true]
   exact hmv hT hX1
  ·
   simp only [e, if_false]
   exact hmv (h1.tab i (by omega)) (h.low i (by omega))
 ·
  have hnew : ∀ b, InB A' b → InB A b ∨ W1.heap.size ≤ b := hP.new
  by_cases e : i = k
  ·
   subst e
   simp only [if_true] at hy
   refine ⟨(hX1 y hy).1, fun e => ?_⟩
   rcases hnew y e with h | h
   · exact (hX1 y hy).2 h
   ·
    have := hT.lt hy
    omega
  ·
   simp only [e, if_false] at hy
   refine ⟨(h.low i (by omega) y hy).1, fun e => ?_⟩
   rcases hnew y e with h2 | h2
   · exact (h.low i (by omega) y hy).2 h2
   ·
    have := (h1.tab i (by omega)).lt hy
    omega
 ·
  by_cases e : i = k
  ·
   subst e
   simp only [if_true] at hy
   simp only [show j ≠ i from fun e => hne e.symm, if_false] at hy2
   have := (h.tab j (by omega)).lt hy2
   have := hX y hy
   omega
  ·
   simp only [e, if_false] at hy
   by_cases e2 : j = k
   ·
    subst e2
    simp only [if_true] at hy2
    have := (h.tab i (by omega)).lt hy
    have := hX y hy2
    omega
   ·
    simp only [e2, if_false] at hy2
    exact h.dis i j (by omega) (by omega) hne y hy hy2
 ·
  have := hset.size
  omega
theorem DMakeW.done (h : DMakeW W D g r n k A c gs Xs) (hk : 1 ≤ k) (hk2 : k ≤ 16) (hr : r.np = (k : Int)) : ∃ X, DTabsP W g r k n (fun _ => sT0 n) X ∧ ∀ y, X y → y = g ∨ D ≤ y := by
 obtain ⟨pb, rfl⟩ := h.own.some_of (by simp; omega)
 have hpb := h.own.block (b := pb) ⟨_, rfl, rfl⟩
 have hR := h.own.reads
 have hgD := h.gD
 refine ⟨fun y => y = g ∨ y = pb ∨ ∃ i, i < k ∧ Xs i y, ⟨pb, c, gs, Xs, h.blk, fun i hi => ?_, h.tab, fun i hi y hy => ?_, h.dis, fun y => Iff.rfl, hpb.2, hr, hk, hk2⟩, fun y hy => ?_⟩
 ·
  obtain ⟨ad, e1, -, hc⟩ := Reads.rec_at pdcell (fun _ => rfl) hR (k := i) (by simpa using hi)
  have := hc 0 (.pointer (some ⟨gs i, 0, none⟩)) (by simp)
  obtain rfl : (⟨pb, 0, none⟩ : Addr) = ad := by simpa using e1
  have e2 : (⟨pb, 0, none⟩ : Addr).add i = ⟨pb, i, none⟩ := by unfold Addr.add; split <;> simp_all
  have e3 : (⟨pb, i, none⟩ : Addr).add 0 = ⟨pb, i, none⟩ := by unfold Addr.add; rfl
  rw [Nat.mul_one, e2, e3] at this
  exact this
 ·
  obtain ⟨h1, h2⟩ := h.low i hi y hy
  exact ⟨by omega, fun e => h2 ⟨_, rfl, e.symm⟩⟩
 ·
  rcases hy with rfl | rfl | ⟨i, hi, hy⟩
  · exact .inl rfl
  · exact .inr hpb.1
  · exact .inr (h.low i hi y hy).1
end
end Go.Proofs.YteklkljndchjiaaGreat
