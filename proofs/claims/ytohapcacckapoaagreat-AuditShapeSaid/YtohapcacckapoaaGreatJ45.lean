/- tables: Live, Looks, Free, Cookie, Drop and Go of tables told by their blocks. tables: a cookie and its entry, in plain words. tables: tables in a law's world: what is true of them, and the blocks that are not their own. tables: what stays true of tables, in plain words; all entries. -/
import Derived.Test.YtohapcacckapoaaGreatJ22
import Derived.Test.YtohapcacckapoaaGreatJ44
import Derived.Test.YtohapcacckapoaaGreatJ42
import Derived.Test.YtohapcacckapoaaGreatJ29
import Derived.Test.YtohapcacckapoaaGreatJ36
namespace Go.Proofs.YtohapcacckapoaaGreat
open Go Go.RowKit Go.Deep Go.Maps Go.ChangeMaps
theorem ent_oneC (x : Slt) : ∀ u ∈ x.ent, u.oneCell' = true := fun u hu => by
 unfold Slt.ent at hu
 simp at hu
 rcases hu with rfl | rfl | rfl | rfl | rfl | rfl | rfl | rfl | rfl | rfl | rfl | rfl | rfl | rfl <;> rfl
def selS (S S' : Nat → TSt) (k : Nat) : Nat → TSt := fun i => if i < k then S' i else S i
theorem selS_zero (S S' : Nat → TSt) : selS S S' 0 = S := by
 funext i
 exact if_neg (by omega)
theorem selS_at (S S' : Nat → TSt) (k : Nat) : selS S S' k k = S k := if_neg (by omega)
theorem selS_succ (S S' : Nat → TSt) (k : Nat) : updS (selS S S' k) k (S' k) = selS S S' (k + 1) := by
 funext i
 unfold updS selS
 by_cases e : i = k
 ·
  subst e
  rw [if_pos rfl, if_pos (by omega)]
 ·
  rw [if_neg e]
  by_cases h : i < k
  · rw [if_pos h, if_pos (by omega)]
  · rw [if_neg h, if_neg (by omega)]
def entsL (n p : Nat) (S : Nat → TSt) : List Slt := catF (fun i => liveL n (S i)) p
def dropL (n : Nat) (bk : Int) (s : TSt) : List Nat := allL s.E (fun x => x.bk == bk) n
theorem ents_len (n : Nat) (E : Nat → Slt) (P : Slt → Bool) : (entsOf E (allL E P n)).length ≤ n := by
 unfold entsOf
 rw [List.length_map]
 exact allL_len E P n
theorem goS_one {G now nw : Int} {M : LM} {S D : List Int} (h : GoS G now nw M S) (k : GoS G now nw M D) : S = D := by
 refine leT_eq S D h.pw k.pw ?_
 cases hg : goOk now nw
 · rw [h.no hg, k.no hg]
 · exact (List.perm_ext_iff_of_nodup h.nd k.nd).2 fun x => (h.mem hg x).trans (k.mem hg x).symm
section
variable {w w' : World} {g p n pb q : Nat} {r : TRule} {S : Nat → TSt} {X F : Nat → Prop} {gs sbs : Nat → Nat} {Xs : Nat → Nat → Prop}
theorem TabsW.congr {S' : Nat → TSt} (h : TabsW w g r p n S X pb q gs sbs Xs) (e : ∀ i, i < p → S i = S' i) : TabsW w g r p n S' X pb q gs sbs Xs :=
 ⟨h.blk, h.ps, fun i hi => e i hi ▸ h.tab i hi, h.off, h.dis, h.all, h.pbl, h.np, h.p1, h.p16⟩
theorem tabs_live (h : TabsP w g r p n S X) :
  Calls Tryz.prog 84 #[.pointer (some ⟨g, 0, none⟩)] w fun e w' => ∃ (A : Option Addr) (a : Nat), e = .returned (.slice A (entsL n p S).length a) ∧ OwnE w' w.heap.size A a (entsL n p S) ∧ Below w.heap.size w w' := by
 obtain ⟨pb, q, gs, sbs, Xs, h⟩ := h
 have hlt := fun y (hy : X y) => h.lt hy
 have hn := tabP_rng (h.tab 0 (by have := h.p1; omega))
 exact tabs_live_gen (cells := Slt.ent) ent_oneC g pb p q gs h.p16 (fun i => liveL n (S i)) (fun i => Nat.le_trans (ents_len _ _ _) hn) w (fun W => TabsW W g r p n S X pb q gs sbs Xs) h (fun W hW => ⟨hW.read.c11, hW.read.ps⟩)
  (fun F W W' hW hc hF => hW.chg hc fun y hy e => by have := hF y e; have := hlt y hy; omega) (fun i W hi hW => tab_live (hW.tab i hi))
theorem tabs_freeP (h : TabsP w g r p n S X) (at_ : Int) : Calls Tryz.prog 115 #[.pointer (some ⟨g, 0, none⟩), .int .i64 at_] w fun e w' => e = .returned (.int .i64 (freeI p S at_)) ∧ w = w' := by
 obtain ⟨pb, q, gs, sbs, Xs, h⟩ := h
 exact tabs_free h.read at_ fun i hi => tab_free (h.tab i hi)
def TabsTo2 (w w' : World) (A : Option Addr) (g : Nat) (r : TRule) (p n : Nat) (S : Nat → TSt) (X : Nat → Prop) : Prop :=
 ∃ X', TabsP w' g r p n S X' ∧ Chg X w w' ∧ (∀ y, X' y → X y ∨ w.heap.size ≤ y) ∧ ∀ y, X' y → ¬ InB A y
theorem TabsTo2.to {A : Option Addr} (h : TabsTo2 w w' A g r p n S X) : TabsTo w w' g r p n S X := by
 obtain ⟨X', h1, h2, h3, -⟩ := h
 exact ⟨X', h1, h2, h3⟩
def dropSC (n : Nat) (bk : Int) (s : TSt) : TSt := dropS n s (dropL n bk s)
theorem tabs_go (h : TabsP w g r p n S X) (hTI : ∀ i, i < p → TI n (S i)) (nw : Int) (hk : ∀ i, i < p → goOk (S i).now nw = true) :
  Calls Tryz.prog 82 #[.pointer (some ⟨g, 0, none⟩), .int .i64 nw] w fun e w' => ∃ (A : Option Addr) (a : Nat) (SS : Nat → List Int), e = .returned (.tuple #[.slice A (catF (fun i => goEnts (S i) (SS i)) p).length a, .int .i64 0]) ∧ (∀ i, i < p → GoS r.G (S i).now nw (S i).M (SS i)) ∧ OwnE w' w.heap.size A a (catF (fun i => goEnts (S i) (SS i)) p) ∧ TabsTo2 w w' A g r p n (fun i => goTab n (S i) nw (SS i)) X := by
 obtain ⟨pb, q, gs, sbs, Xs, h⟩ := h
 have hlt := fun y (hy : X y) => h.lt hy
 have hn := tabP_rng (h.tab 0 (by have := h.p1; omega))
 have hch : ∀ i, ∃ L : List Int, L.length ≤ 4096 ∧ ∀ D, GoS r.G (S i).now nw (S i).M D → D.length ≤ 4096 → L = D := fun i => by
  by_cases hE : ∃ D : List Int, GoS r.G (S i).now nw (S i).M D ∧ D.length ≤ 4096
  ·
   obtain ⟨D, h1, h2⟩ := hE
   exact ⟨D, h2, fun D' h3 _ => goS_one h1 h3⟩
  · exact ⟨[], by simp, fun D h1 h2 => absurd ⟨D, h1, h2⟩ hE⟩
 obtain ⟨SS, hSS⟩ := Classical.axiomOfChoice hch
 refine (tabs_go_gen (cells := Slt.ent) ent_oneC g pb p q gs h.p16 h.p1 (fun i => goEnts (S i) (SS i)) (fun i => by unfold goEnts; rw [List.length_map]; exact (hSS i).1) nw w X hlt (fun k W X' => (∀ i, i < k → GoS r.G (S i).now nw (S i).M (SS i)) ∧ ∃ sbs Xs, TabsW W g r p n (selS S (fun i => goTab n (S i) nw (SS i)) k) X' pb q gs sbs Xs) ⟨fun ⟨_, _, _, h⟩ _ hy => h.lt hy, fun ⟨k1, _, _, h⟩ hc hF => ⟨k1, _, _, h.chg hc hF⟩, fun ⟨_, _, _, h⟩ => ⟨h.read.c11, h.read.ps⟩⟩ ⟨fun i hi => by omega, sbs, Xs, by rw [selS_zero]; exact h⟩ ?_).mono ?_
 ·
  rintro k W X' hkp ⟨hb, sbs1, Xs1, h1⟩
  have h2 := h1.tab k hkp
  rw [selS_at] at h2
  refine (tab_go h2 (hTI k hkp).sl (hTI k hkp).hasN nw).mono ?_
  rintro e w1 ⟨A, a, D, rfl, hG, hO, hR, hT⟩
  have hD : SS k = D := (hSS k).2 D hG (Nat.le_trans (nodup_len n D hG.nd hR) hn)
  subst hD
  obtain ⟨Xs2, X2, k1, k2, k3⟩ := h1.part hkp hT
  refine ⟨A, a, ?_, hO, X2, ⟨fun i hi => ?_, sbs1, Xs2, ?_⟩, k2, k3⟩
  ·
   unfold goE goEnts
   rw [hk k hkp, List.length_map]
   rfl
  ·
   by_cases e : i = k
   ·
    subst e
    exact hG
   · exact hb i (by omega)
  ·
   have e := selS_succ S (fun i => goTab n (S i) nw (SS i)) k
   try dsimp only at e
   rw [← e]
   exact k1
 ·
  rintro e w1 ⟨A, a, rfl, hO, X', ⟨hb, sbs1, Xs1, h1⟩, h2, h3, h4⟩
  exact ⟨A, a, SS, rfl, hb, hO, X', ⟨_, _, _, _, _, h1.congr fun i hi => if_pos hi⟩, h2, h3, h4⟩
end
def ckOf (r : TRule) (x : Slt) : Int := makeI r.wd r.sl r.gn r.ka r.kb x.t x.sl x.gen
section
variable {r : TRule} {n k : Nat} {s : TSt} {t : Tup}
end
def TabsN (w0 w : World) (g : Nat) (r : TRule) (p n : Nat) (S : Nat → TSt) (K : Nat → Prop) : Prop :=
 (∀ i, i < p → TI n (S i)) ∧ r.cfg.right ∧ Below w0.heap.size w0 w ∧ ∃ X, TabsP w g r p n S X ∧ ∀ b, X b → w0.heap.size ≤ b ∧ ¬ K b
section
variable {w0 w w' : World} {g p n : Nat} {r : TRule} {S S' : Nat → TSt} {K K' F : Nat → Prop}
theorem TabsN.ti (h : TabsN w0 w g r p n S K) : ∀ i, i < p → TI n (S i) := h.1
theorem TabsN.below (h : TabsN w0 w g r p n S K) : Below w0.heap.size w0 w := h.2.2.1
theorem TabsN.size (h : TabsN w0 w g r p n S K) : w0.heap.size ≤ w.heap.size := h.2.2.1.size
theorem TabsN.rng (h : TabsN w0 w g r p n S K) : r.np = (p : Int) ∧ 1 ≤ p ∧ p ≤ 16 := by
 obtain ⟨-, -, -, X, h1, -⟩ := h
 exact h1.rng
theorem TabsN.chg (h : TabsN w0 w g r p n S K) (k : Chg F w w') (hF : ∀ b, F b → K b) (h0 : ∀ b, F b → w0.heap.size ≤ b) : TabsN w0 w' g r p n S K := by
 obtain ⟨hi, hr, hb, X, h1, h2⟩ := h
 exact ⟨hi, hr, below_chg hb k (fun b hb hx => by have := h0 b hx; omega) hb.size, X, h1.chg k (fun b hx hf => (h2 b hx).2 (hF b hf)), h2⟩
theorem TabsN.call (h : TabsN w0 w g r p n S K) (hb : Below w.heap.size w w') : TabsN w0 w' g r p n S (fun b => K b ∨ w.heap.size ≤ b ∧ b < w'.heap.size) := by
 obtain ⟨hi, hr, hb0, X, h1, h2⟩ := h
 refine ⟨hi, hr, below_chain hb hb0, X, h1.call hb, fun b hx => ⟨(h2 b hx).1, fun hk => ?_⟩⟩
 rcases hk with hk | hk
 · exact (h2 b hx).2 hk
 ·
  have := h1.lt hx
  omega
theorem TabsN.mono (h : TabsN w0 w g r p n S K) (hK : ∀ b, K' b → K b) : TabsN w0 w g r p n S K' := by
 obtain ⟨hi, hr, hb0, X, h1, h2⟩ := h
 exact ⟨hi, hr, hb0, X, h1, fun b hx => ⟨(h2 b hx).1, fun hk => (h2 b hx).2 (hK b hk)⟩⟩
theorem TabsN.call0 (h : TabsN w0 w g r p n S K) (hb : Below w.heap.size w w') : TabsN w0 w' g r p n S K := (h.call hb).mono fun _ hk => .inl hk
theorem TabsN.alloc (h : TabsN w0 w g r p n S K) (o : Obj) : TabsN w0 (w.alloc o) g r p n S (fun b => K b ∨ b = w.heap.size) :=
 (h.call (below_alloc (Below.refl _ _) o)).mono fun b hk => hk.imp id fun e => ⟨by omega, by rw [World.size_alloc]; omega⟩
theorem TabsN.drew (h : TabsN w0 w g r p n S K) : TabsN w0 w.drew g r p n S K := h.call0 (Below.refl _ _).drew
end
def KeepE (n : Nat) (s s' : TSt) : Prop := ∀ k : Nat, k < n → (s'.E k).used = true → (s.E k).used = true ∧ (s'.E k).t = (s.E k).t ∧ (s'.E k).bk = (s.E k).bk
section
variable {n k : Nat} {s s' s2 : TSt} {r : TRule} {t : Tup}
theorem KeepE.trans (h : KeepE n s s') (h2 : KeepE n s' s2) : KeepE n s s2 := fun k hk hu => by
 obtain ⟨a1, a2, a3⟩ := h2 k hk hu
 obtain ⟨b1, b2, b3⟩ := h k hk a1
 exact ⟨b1, a2.trans b2, a3.trans b3⟩
theorem keepE_clr (P : Nat → Prop) [DecidablePred P] (hE : ∀ k : Nat, k < n → s'.E k = if P k then clrS (s.E k) else s.E k) : KeepE n s s' := fun k hk hu => by
 rw [hE k hk] at hu ⊢
 by_cases hp : P k
 ·
  rw [if_pos hp] at hu
  cases hu
 ·
  rw [if_neg hp] at hu ⊢
  exact ⟨hu, rfl, rfl⟩
theorem keepE_go (hi : TI n s) {G nw : Int} {S : List Int} (hS : GoS G s.now nw s.M S) : KeepE n s (goTab n s nw S) :=
 keepE_clr (fun k => (k : Int) ∈ S) fun k _ => (hi.go hS).2.1 k
theorem keepE_drop (hi : TI n s) (bk : Int) : KeepE n s (dropSC n bk s) :=
 keepE_clr (fun k => ((s.E k).used && (s.E k).bk == bk) = true) fun k hk => (hi.drop (fun x => x.bk == bk)).2.1 k hk
end
structure LI (r : TRule) (p n : Nat) (S : Nat → TSt) (b : Int) : Prop where
 ti : ∀ i, i < p → TI n (S i)
 pt : ∀ i, i < p → ∀ k : Nat, k < n → ((S i).E k).used = true → pIx r ((S i).E k).t = i
 now : ∀ i, i < p → (S i).now = (S 0).now
 lk : ∀ i, i < p → 0 ≤ (S i).lk ∧ (S i).lk ≤ b
section
variable {r : TRule} {p n : Nat} {S S' : Nat → TSt} {b b' : Int} {t : Tup}
theorem LI.new (r : TRule) (p n : Nat) : LI r p n (fun _ => sT0 n) 0 :=
 ⟨fun _ _ => TI.new n, fun i hi k hk hu => (by cases hu), fun _ _ => rfl, fun _ _ => ⟨Int.le_refl _, Int.le_refl _⟩⟩
theorem LI.mono (h : LI r p n S b) (hb : b ≤ b') : LI r p n S b' := ⟨h.ti, h.pt, h.now, fun i hi => ⟨(h.lk i hi).1, by have := (h.lk i hi).2; omega⟩⟩
theorem LI.all (h : LI r p n S b) (hti : ∀ i, i < p → TI n (S' i)) (hk : ∀ i, i < p → KeepE n (S i) (S' i)) (hn : ∀ i, i < p → (S' i).now = (S' 0).now) (hl : ∀ i, i < p → (S' i).lk = (S i).lk) : LI r p n S' b :=
 ⟨hti, fun i hi k hkn hu => by
  obtain ⟨a1, a2, -⟩ := hk i hi k hkn hu
  rw [a2]
  exact h.pt i hi k hkn a1, hn, fun i hi => by rw [hl i hi]; exact h.lk i hi⟩
theorem LI.go (h : LI r p n S b) {nw : Int} {SS : Nat → List Int} (hS : ∀ i, i < p → GoS r.G (S i).now nw (S i).M (SS i)) : LI r p n (fun i => goTab n (S i) nw (SS i)) b :=
 h.all (fun i hi => ((h.ti i hi).go (hS i hi)).1) (fun i hi => keepE_go (h.ti i hi) (hS i hi)) (fun i hi => by
  rw [((h.ti i hi).go (hS i hi)).2.2.2.2.1, ((h.ti 0 (by omega)).go (hS 0 (by omega))).2.2.2.2.1, h.now i hi]) fun i hi => ((h.ti i hi).go (hS i hi)).2.2.2.2.2
theorem LI.drop (h : LI r p n S b) (bk : Int) : LI r p n (fun i => dropSC n bk (S i)) b :=
 h.all (fun i hi => ((h.ti i hi).drop _).1) (fun i hi => keepE_drop (h.ti i hi) bk) (fun i hi => by
  have e : ∀ i, i < p → (dropSC n bk (S i)).now = (S i).now := fun i hi => ((h.ti i hi).drop _).2.2.2.1
  rw [e i hi, e 0 (by omega)]
  exact h.now i hi) fun i hi => ((h.ti i hi).drop _).2.2.2.2
theorem mem_catF {α : Type} {f : Nat → List α} {x : α} : ∀ {p : Nat}, x ∈ catF f p ↔ ∃ i, i < p ∧ x ∈ f i
 | 0 => ⟨fun h => (by cases h), fun ⟨i, hi, _⟩ => by omega⟩
 | p + 1 => by
  rw [catF, List.mem_append, mem_catF (p := p)]
  constructor
  ·
   rintro (⟨i, hi, h⟩ | h)
   · exact ⟨i, by omega, h⟩
   · exact ⟨p, by omega, h⟩
  ·
   rintro ⟨i, hi, h⟩
   by_cases e : i = p
   ·
    subst e
    exact .inr h
   · exact .inl ⟨i, by omega, h⟩
theorem mem_entsL {x : Slt} : x ∈ entsL n p S ↔ ∃ i, i < p ∧ ∃ k : Nat, k < n ∧ ((S i).E k).used = true ∧ (S i).E k = x := by
 unfold entsL
 rw [mem_catF]
 exact exists_congr fun i => and_congr Iff.rfl mem_liveL
def isB (r : TRule) (L : List Slt) (t : Tup) (k : Int) : Bool := L.any fun x => tupB x.t t && (ckOf r x == k)
theorem ents_free (hti : ∀ i, i < p → TI n (S i)) : ∀ q, q ≤ p → (entsL n q S).length + ((List.range q).map fun i => (S i).L.length).sum = q * n
 | 0, _ => by simp [entsL, catF]
 | q + 1, hq => by
  have ih := ents_free hti q (by omega)
  have := live_free (hti q (by omega))
  have e : entsL n (q + 1) S = entsL n q S ++ liveL n (S q) := rfl
  rw [e, List.length_append, List.range_succ, List.map_append, List.sum_append, Nat.succ_mul]
  simp
  omega
end
end Go.Proofs.YtohapcacckapoaaGreat
