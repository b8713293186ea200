/- tables: Live, Looks, Free, Cookie, Drop and Go of tables told by their blocks. tables: a cookie and its entry, in plain words. tables: tables in a law's world: what is true of them, and the blocks that are not their own. tables: what stays true of tables, in plain words; all entries. tables: the document's Looks, Live, free. -/
import Derived.Test.YteklkljndchjiaaGreatJ19
import Derived.Test.YteklkljndchjiaaGreatJ45
import Derived.Test.YteklkljndchjiaaGreatJ42
import Derived.Test.YteklkljndchjiaaGreatJ26
import Derived.Test.YteklkljndchjiaaGreatJ34
import Derived.Test.YteklkljndchjiaaGreatJ43
import Derived.Test.YteklkljndchjiaaGreatJ40
import Derived.Deep.LoopGhost
namespace Go.Proofs.YteklkljndchjiaaGreat
open Go Go.RowKit Go.Deep Go.Maps Go.ChangeMaps
theorem ent_oneC (x : Slt) : ∀ u ∈ x.ent, u.oneCell' = true := fun u hu => by
 unfold Slt.ent at hu
 simp at hu
 rcases hu with rfl | rfl | rfl | rfl | rfl | rfl | rfl | rfl | rfl | rfl | rfl | rfl | rfl | rfl <;> rfl
def selS (S S' : Nat → TSt) (k : Nat) : Nat → TSt := fun i => if i < k then S' i else S i
theorem selS_zero (S S' : Nat → TSt) : selS S S' 0 = S := by
 funext i
 exact if_neg (by omega)
theorem selS_at (S S' : Nat → TSt) (k : Nat) : selS S S' k k = S k := if_neg (by omega)
theorem selS_succ (S S' : Nat → TSt) (k : Nat) : updS (selS S S' k) k (S' k) = selS S S' (k + 1) := by
 funext i
 unfold updS selS
 by_cases e : i = k
 ·
  subst e
  rw [if_pos rfl, if_pos (by omega)]
 ·
  rw [if_neg e]
  by_cases h : i < k
  · rw [if_pos h, if_pos (by omega)]
  · rw [if_neg h, if_neg (by omega)]
def entsL (n p : Nat) (S : Nat → TSt) : List Slt := catF (fun i => liveL n (S i)) p
def dropL (n : Nat) (bk : Int) (s : TSt) : List Nat := allL s.E (fun x => x.bk == bk) n
theorem ents_len (n : Nat) (E : Nat → Slt) (P : Slt → Bool) : (entsOf E (allL E P n)).length ≤ n := by
 unfold entsOf
 rw [List.length_map]
 exact allL_len E P n
theorem goS_one {G now nw : Int} {M : LM} {S D : List Int} (h : GoS G now nw M S) (k : GoS G now nw M D) : S = D := by
 refine leT_eq S D h.pw k.pw ?_
 cases hg : goOk now nw
 · rw [h.no hg, k.no hg]
 · exact (List.perm_ext_iff_of_nodup h.nd k.nd).2 fun x => (h.mem hg x).trans (k.mem hg x).symm
section
variable {w w' : World} {g p n pb q : Nat} {r : TRule} {S : Nat → TSt} {X F : Nat → Prop} {gs sbs : Nat → Nat} {Xs : Nat → Nat → Prop}
theorem TabsW.congr {S' : Nat → TSt} (h : TabsW w g r p n S X pb q gs sbs Xs) (e : ∀ i, i < p → S i = S' i) : TabsW w g r p n S' X pb q gs sbs Xs :=
 ⟨h.blk, h.ps, fun i hi => e i hi ▸ h.tab i hi, h.off, h.dis, h.all, h.pbl, h.np, h.p1, h.p16⟩
theorem tabs_live (h : TabsP w g r p n S X) :
  Calls Tryz.prog 27 #[.pointer (some ⟨g, 0, none⟩)] w fun e w' => ∃ (A : Option Addr) (a : Nat), e = .returned (.slice A (entsL n p S).length a) ∧ OwnE w' w.heap.size A a (entsL n p S) ∧ Below w.heap.size w w' := by
 obtain ⟨pb, q, gs, sbs, Xs, h⟩ := h
 have hlt := fun y (hy : X y) => h.lt hy
 have hn := tabP_rng (h.tab 0 (by have := h.p1; omega))
 exact tabs_live_gen (cells := Slt.ent) ent_oneC g pb p q gs h.p16 (fun i => liveL n (S i)) (fun i => Nat.le_trans (ents_len _ _ _) hn) w (fun W => TabsW W g r p n S X pb q gs sbs Xs) h (fun W hW => ⟨hW.read.c11, hW.read.ps⟩)
  (fun F W W' hW hc hF => hW.chg hc fun y hy e => by have := hF y e; have := hlt y hy; omega) (fun i W hi hW => tab_live (hW.tab i hi))
theorem tabs_freeP (h : TabsP w g r p n S X) (at_ : Int) : Calls Tryz.prog 30 #[.pointer (some ⟨g, 0, none⟩), .int .i64 at_] w fun e w' => e = .returned (.int .i64 (freeI p S at_)) ∧ w = w' := by
 obtain ⟨pb, q, gs, sbs, Xs, h⟩ := h
 exact tabs_free h.read at_ fun i hi => tab_free (h.tab i hi)
theorem tableT (g r p n pb q : _) (gs : Nat → Nat) (Sk : Nat → Nat → TSt) : TableT (fun k W X' => ∃ sbs Xs, TabsW W g r p n (Sk k) X' pb q gs sbs Xs) g pb p q gs where
 lt := fun ⟨_, _, h⟩ _ hy => h.lt hy
 chg := fun ⟨_, _, h⟩ hc hF => ⟨_, _, h.chg hc hF⟩
 cells := fun ⟨_, _, h⟩ => ⟨h.read.c11, h.read.ps⟩
def TabsTo2 (w w' : World) (A : Option Addr) (g : Nat) (r : TRule) (p n : Nat) (S : Nat → TSt) (X : Nat → Prop) : Prop :=
 ∃ X', TabsP w' g r p n S X' ∧ Chg X w w' ∧ (∀ y, X' y → X y ∨ w.heap.size ≤ y) ∧ ∀ y, X' y → ¬ InB A y
theorem TabsTo2.to {A : Option Addr} (h : TabsTo2 w w' A g r p n S X) : TabsTo w w' g r p n S X := by
 obtain ⟨X', h1, h2, h3, -⟩ := h
 exact ⟨X', h1, h2, h3⟩
def dropSC (n : Nat) (bk : Int) (s : TSt) : TSt := dropS n s (dropL n bk s)
theorem tabs_drop (h : TabsP w g r p n S X) (hTI : ∀ i, i < p → TI n (S i)) (bk : Int) :
  Calls Tryz.prog 24 #[.pointer (some ⟨g, 0, none⟩), .int .i64 bk] w fun e w' => ∃ (A : Option Addr) (a : Nat), e = .returned (.slice A (catF (fun i => entsOf (S i).E (dropL n bk (S i))) p).length a) ∧ OwnE w' w.heap.size A a (catF (fun i => entsOf (S i).E (dropL n bk (S i))) p) ∧ TabsTo2 w w' A g r p n (fun i => dropSC n bk (S i)) X := by
 obtain ⟨pb, q, gs, sbs, Xs, h⟩ := h
 have hlt := fun y (hy : X y) => h.lt hy
 have hn := tabP_rng (h.tab 0 (by have := h.p1; omega))
 refine (tabs_drop_gen (cells := Slt.ent) ent_oneC g pb p q gs h.p16 (fun i => entsOf (S i).E (dropL n bk (S i))) (fun i => Nat.le_trans (ents_len _ _ _) hn) bk w X hlt _ (tableT g r p n pb q gs (selS S fun i => dropSC n bk (S i))) ⟨sbs, Xs, by rw [selS_zero]; exact h⟩ ?_).mono ?_
 ·
  rintro k W X' hk ⟨sbs1, Xs1, h1⟩
  have h2 := h1.tab k hk
  rw [selS_at] at h2
  refine (tab_drop h2 (hTI k hk).sl bk).mono ?_
  rintro e w1 ⟨A, a, rfl, hO, hT⟩
  obtain ⟨Xs2, X2, k1, k2, k3⟩ := h1.part hk hT
  refine ⟨A, a, rfl, hO, X2, ⟨sbs1, Xs2, ?_⟩, k2, k3⟩
  have e := selS_succ S (fun i => dropSC n bk (S i)) k
  try dsimp only at e
  rw [← e]
  exact k1
 ·
  rintro e w1 ⟨A, a, rfl, hO, X', ⟨sbs1, Xs1, h1⟩, h2, h3, h4⟩
  exact ⟨A, a, rfl, hO, X', ⟨_, _, _, _, _, h1.congr fun i hi => if_pos hi⟩, h2, h3, h4⟩
theorem goTab_no {s : TSt} {nw : Int} (h : goOk s.now nw = false) : goTab n s nw [] = s := by
 unfold goTab goAll goN
 rw [h]
 rfl
theorem tabs_go (h : TabsP w g r p n S X) (hTI : ∀ i, i < p → TI n (S i)) (nw : Int) (hk : ∀ i, i < p → goOk (S i).now nw = true) :
  Calls Tryz.prog 21 #[.pointer (some ⟨g, 0, none⟩), .int .i64 nw] w fun e w' => ∃ (A : Option Addr) (a : Nat) (SS : Nat → List Int), e = .returned (.tuple #[.slice A (catF (fun i => goEnts (S i) (SS i)) p).length a, .int .i64 0]) ∧ (∀ i, i < p → GoS r.G (S i).now nw (S i).M (SS i)) ∧ OwnE w' w.heap.size A a (catF (fun i => goEnts (S i) (SS i)) p) ∧ TabsTo2 w w' A g r p n (fun i => goTab n (S i) nw (SS i)) X := by
 obtain ⟨pb, q, gs, sbs, Xs, h⟩ := h
 have hlt := fun y (hy : X y) => h.lt hy
 have hn := tabP_rng (h.tab 0 (by have := h.p1; omega))
 have hch : ∀ i, ∃ L : List Int, L.length ≤ 4096 ∧ ∀ D, GoS r.G (S i).now nw (S i).M D → D.length ≤ 4096 → L = D := fun i => by
  by_cases hE : ∃ D : List Int, GoS r.G (S i).now nw (S i).M D ∧ D.length ≤ 4096
  ·
   obtain ⟨D, h1, h2⟩ := hE
   exact ⟨D, h2, fun D' h3 _ => goS_one h1 h3⟩
  · exact ⟨[], by simp, fun D h1 h2 => absurd ⟨D, h1, h2⟩ hE⟩
 obtain ⟨SS, hSS⟩ := Classical.axiomOfChoice hch
 refine (tabs_go_gen (cells := Slt.ent) ent_oneC g pb p q gs h.p16 h.p1 (fun i => goEnts (S i) (SS i)) (fun i => by unfold goEnts; rw [List.length_map]; exact (hSS i).1) nw w X hlt (fun k W X' => (∀ i, i < k → GoS r.G (S i).now nw (S i).M (SS i)) ∧ ∃ sbs Xs, TabsW W g r p n (selS S (fun i => goTab n (S i) nw (SS i)) k) X' pb q gs sbs Xs) ⟨fun ⟨_, _, _, h⟩ _ hy => h.lt hy, fun ⟨k1, _, _, h⟩ hc hF => ⟨k1, _, _, h.chg hc hF⟩, fun ⟨_, _, _, h⟩ => ⟨h.read.c11, h.read.ps⟩⟩ ⟨fun i hi => by omega, sbs, Xs, by rw [selS_zero]; exact h⟩ ?_).mono ?_
 ·
  rintro k W X' hkp ⟨hb, sbs1, Xs1, h1⟩
  have h2 := h1.tab k hkp
  rw [selS_at] at h2
  refine (tab_go h2 (hTI k hkp).sl (hTI k hkp).hasN nw).mono ?_
  rintro e w1 ⟨A, a, D, rfl, hG, hO, hR, hT⟩
  have hD : SS k = D := (hSS k).2 D hG (Nat.le_trans (nodup_len n D hG.nd hR) hn)
  subst hD
  obtain ⟨Xs2, X2, k1, k2, k3⟩ := h1.part hkp hT
  refine ⟨A, a, ?_, hO, X2, ⟨fun i hi => ?_, sbs1, Xs2, ?_⟩, k2, k3⟩
  ·
   unfold goE goEnts
   rw [hk k hkp, List.length_map]
   rfl
  ·
   by_cases e : i = k
   ·
    subst e
    exact hG
   · exact hb i (by omega)
  ·
   have e := selS_succ S (fun i => goTab n (S i) nw (SS i)) k
   try dsimp only at e
   rw [← e]
   exact k1
 ·
  rintro e w1 ⟨A, a, rfl, hO, X', ⟨hb, sbs1, Xs1, h1⟩, h2, h3, h4⟩
  exact ⟨A, a, SS, rfl, hb, hO, X', ⟨_, _, _, _, _, h1.congr fun i hi => if_pos hi⟩, h2, h3, h4⟩
theorem tabs_go_no (h : TabsP w g r p n S X) (hTI : ∀ i, i < p → TI n (S i)) (nw : Int) (hk : goOk (S 0).now nw = false) :
  Calls Tryz.prog 21 #[.pointer (some ⟨g, 0, none⟩), .int .i64 nw] w fun e w' => e = .returned (.tuple #[.slice none 0 0, .int .i64 15]) ∧ TabsTo w w' g r p n S X := by
 obtain ⟨pb, q, gs, sbs, Xs, h⟩ := h
 have hlt := fun y (hy : X y) => h.lt hy
 have hp : 0 < p := by have := h.p1; omega
 refine (tabs_go_err g pb p q gs h.p16 h.p1 nw w X hlt _ (tableT g r p n pb q gs (fun _ => S)) ⟨sbs, Xs, h⟩ 15 (by omega) ?_).mono ?_
 ·
  rintro W X' ⟨sbs1, Xs1, h1⟩
  refine (tab_go (h1.tab 0 hp) (hTI 0 hp).sl (hTI 0 hp).hasN nw).mono ?_
  rintro e w1 ⟨A, a, D, rfl, hG, hO, hR, hT⟩
  rw [hG.no hk, goTab_no hk] at hT
  obtain ⟨Xs2, X2, k1, k2, k3⟩ := h1.part hp hT
  rw [updS_same] at k1
  refine ⟨A, D.length, a, ?_, X2, ⟨sbs1, Xs2, k1⟩, k2, k3⟩
  unfold goE
  rw [hk]
  rfl
 ·
  rintro e w1 ⟨rfl, X', ⟨sbs1, Xs1, h1⟩, h2, h3⟩
  exact ⟨rfl, X', ⟨_, _, _, _, _, h1⟩, h2, h3⟩
end
theorem cook_iff {wd : Bool} {sl gn a b : Int} {t : Tup} {c : Nat} {gen : Int} {n : Nat} (hl : layOk wd sl gn = true) (hc : c < 2 ^ sl.toNat) (hg : 0 ≤ gen ∧ gen < 18446744073709551616) (hn : n < 18446744073709551616) :
  makeI wd sl gn a b t c gen = n ↔ openOkC wd sl gn a b t n = true ∧ openSl wd sl gn a b t n = c ∧ openGn wd sl gn a b t n = ((gen.toNat % 2 ^ gn.toNat : Nat) : Int) := by
 obtain ⟨A, B, rfl, rfl, h12, hAB⟩ := layOk_nat hl
 obtain ⟨G, rfl⟩ : ∃ G : Nat, gen = G := ⟨gen.toNat, by omega⟩
 rw [Int.toNat_natCast] at hc
 rw [Int.toNat_natCast, Int.toNat_natCast]
 have hpk : packOk wd A B c = true := by
  unfold packOk
  rw [hl, Bool.true_and, decide_eq_true_eq, Int.toNat_natCast]
  exact ⟨by omega, by exact_mod_cast hc⟩
 have hA63 : A + B ≤ 63 := by split at hAB <;> omega
 have hpl := packV_lt (gn := B) (gen := G) hc
 have h63 := pow63 (A + B) hA63
 obtain ⟨h, W, hh, hW, hW2, hcm⟩ := cookM_nat wd A B a b t n hn
 obtain ⟨h', W', hh', hW', -, hcm'⟩ := cookM_nat wd A B a b t (packV A B c G) (by omega)
 obtain rfl : h' = h := by have := hh'.symm.trans hh; omega
 obtain rfl : W' = W := by have := hW'.symm.trans hW; omega
 obtain ⟨W'', hW'', -, hnar⟩ := narrow_iff wd A B n hn
 obtain rfl : W'' = W' := by have := hW''.symm.trans hW; omega
 have hAW : A + B ≤ W'' := by
  unfold layW at hW
  rw [hl, if_pos rfl] at hW
  cases wd
  ·
   simp at hAB hW
   omega
  ·
   simp at hAB hW
   omega
 have hpw : 2 ^ (A + B) ≤ 2 ^ W'' := Nat.pow_le_pow_right (by omega) hAW
 have hmk : makeI wd A B a b t c G = ((hideV W'' h' (packV A B c G) : Nat) : Int) := by
  unfold makeI
  rw [hpk, if_pos rfl, packI_eq hpk, hcm']
 have hop : openOkC wd A B a b t n = (decide (n < 2 ^ W'') && decide (hideV W'' h' n < 2 ^ (A + B))) := by
  unfold openOkC unpOk
  rw [hnar, hcm, hl, Bool.true_and, Int.toNat_natCast, Int.toNat_natCast, Int.toNat_natCast]
 rw [hmk, hop, Bool.and_eq_true, decide_eq_true_eq, decide_eq_true_eq]
 unfold openSl openGn
 rw [hnar, hcm, Int.toNat_natCast]
 have hU : hideV W'' h' n < 2 ^ (A + B) → unpS wd A B (hideV W'' h' n) = ((hideV W'' h' n % 2 ^ A : Nat) : Int) ∧ unpG wd A B (hideV W'' h' n) = ((hideV W'' h' n / 2 ^ A : Nat) : Int) := fun e => unp_yes (by
  unfold unpOk
  rw [hl, Bool.true_and, decide_eq_true_eq, Int.toNat_natCast, Int.toNat_natCast]
  exact e)
 constructor
 ·
  intro e
  have e1 : hideV W'' h' (packV A B c G) = n := by exact_mod_cast e
  have e2 : hideV W'' h' n = packV A B c G := by rw [← e1]; exact hide_hide W'' h' (by omega)
  have e3 : n < 2 ^ W'' := e1 ▸ hideV_lt _ _ _
  have hU2 := hU (by rw [e2]; exact hpl)
  refine ⟨⟨e3, by rw [e2]; exact hpl⟩, ?_, ?_⟩
  · rw [if_pos (by simpa using e3), hU2.1, e2, unpack_slot hc]
  · rw [if_pos (by simpa using e3), hU2.2, e2, unpack_gen hc]
 ·
  rintro ⟨⟨e1, e2⟩, e3, e4⟩
  obtain ⟨u1, u2⟩ := hU e2
  rw [if_pos (by simpa using e1), u1] at e3
  rw [if_pos (by simpa using e1), u2] at e4
  have e5 : hideV W'' h' n % 2 ^ A = c := by exact_mod_cast e3
  have e6 : hideV W'' h' n / 2 ^ A = G % 2 ^ B := by exact_mod_cast e4
  have e7 : packV A B c G = hideV W'' h' n := by
   unfold packV
   rw [← e5, ← e6]
   exact Nat.div_add_mod' _ _
  rw [e7, hide_hide _ _ e1]
def ckOf (r : TRule) (x : Slt) : Int := makeI r.wd r.sl r.gn r.ka r.kb x.t x.sl x.gen
theorem makeI_rng (wd : Bool) (sl gn a b : Int) (t : Tup) (c : Int) {gen : Int} (hg : 0 ≤ gen ∧ gen < 18446744073709551616) : ∃ n : Nat, makeI wd sl gn a b t c gen = n ∧ n < 18446744073709551616 := by
 unfold makeI
 cases hp : packOk wd sl gn c
 · exact ⟨0, rfl, by omega⟩
 ·
  obtain ⟨A, B, C, rfl, rfl, rfl, -, hAB, hC⟩ := packOk_nat hp
  obtain ⟨G, rfl⟩ : ∃ G : Nat, gen = G := ⟨gen.toNat, by omega⟩
  have hpl := packV_lt (gn := B) (gen := G) hC
  have h63 := pow63 (A + B) (by split at hAB <;> omega)
  rw [if_pos rfl, packI_eq hp]
  obtain ⟨h, W, -, -, hW2, hcm⟩ := cookM_nat wd A B a b t (packV A B C G) (by omega)
  exact ⟨_, hcm, Nat.lt_of_lt_of_le (hideV_lt _ _ _) (pow64' W hW2)⟩
section
variable {r : TRule} {n k : Nat} {s : TSt} {t : Tup}
theorem ruleOk_lay (h : ruleOk r = true) : layOk r.wd r.sl r.gn = true := by
 unfold ruleOk at h
 simp only [Bool.and_eq_true] at h
 exact h.1.1.1
theorem findC_iff (hr : ruleOk r = true) (hn : n = 2 ^ r.sl.toNat) (hi : TI n s) (hk : k < 18446744073709551616) :
  findOkC r n s t k = true ↔ ∃ c : Nat, c < n ∧ openSl r.wd r.sl r.gn r.ka r.kb t k = c ∧ (s.E c).used = true ∧ (s.E c).t = t ∧ ckOf r (s.E c) = k := by
 have hl := ruleOk_lay hr
 obtain ⟨A, B, hA, hB, -, hAB⟩ := layOk_nat hl
 have h63 : B ≤ 63 := by split at hAB <;> omega
 have hmask : ∀ x : Int, 0 ≤ x → x < 18446744073709551616 → bits BinOp.and IntKind.u64 x (maskI r.gn) = ((x.toNat % 2 ^ r.gn.toNat : Nat) : Int) := fun x h1 h2 => by
  obtain ⟨X, rfl⟩ : ∃ X : Nat, x = X := ⟨x.toNat, by omega⟩
  rw [hB, Int.toNat_natCast, Int.toNat_natCast]
  exact and_maskI X B (by omega) (by omega)
 unfold findOkC findOk
 simp only [Bool.and_eq_true, decide_eq_true_eq, beq_iff_eq, closeOk_iff, tupB_iff]
 constructor
 ·
  rintro ⟨ho, ⟨c, hc, hcn, hu⟩, -, ht, hb⟩
  rw [hc, Int.toNat_natCast] at ht hb
  have hgr := hi.gr c hcn
  rw [hmask _ hgr.1 hgr.2] at hb
  refine ⟨c, hcn, hc, hu, ht, ?_⟩
  unfold ckOf
  rw [ht, hi.sl c hcn]
  exact (cook_iff hl (hn ▸ hcn) hgr hk).2 ⟨ho, hc, hb.symm⟩
 ·
  rintro ⟨c, hcn, hc, hu, ht, hck⟩
  have hgr := hi.gr c hcn
  unfold ckOf at hck
  rw [ht, hi.sl c hcn] at hck
  obtain ⟨h1, h2, h3⟩ := (cook_iff hl (hn ▸ hcn) hgr hk).1 hck
  refine ⟨h1, ⟨c, h2, hcn, hu⟩, by omega, ?_, ?_⟩
  ·
   rw [h2, Int.toNat_natCast]
   exact ht
  · rw [h2, Int.toNat_natCast, hmask _ hgr.1 hgr.2, h3]
theorem findC_at (hr : ruleOk r = true) (hn : n = 2 ^ r.sl.toNat) (hi : TI n s) (hk : k < 18446744073709551616) {c : Nat} (hc : c < n) (hu : (s.E c).used = true) (hck : ckOf r (s.E c) = k) : findOkC r n s (s.E c).t k = true ∧ findVC r n s (s.E c).t k = s.E c := by
 have hck2 := hck
 unfold ckOf at hck2
 rw [hi.sl c hc] at hck2
 obtain ⟨h1, h2, h3⟩ := (cook_iff (ruleOk_lay hr) (hn ▸ hc) (hi.gr c hc) hk).1 hck2
 have hf : findOkC r n s (s.E c).t k = true := (findC_iff hr hn hi hk).2 ⟨c, hc, h2, hu, rfl, hck⟩
 refine ⟨hf, ?_⟩
 unfold findVC findV
 unfold findOkC at hf
 rw [Bool.and_eq_true] at hf
 rw [if_pos h1, if_pos hf.2, h2, Int.toNat_natCast]
theorem findSC_eq (s : TSt) (t : Tup) (k : Int) : (findSC r n s t k).E = s.E ∧ (findSC r n s t k).L = s.L ∧ (findSC r n s t k).M = s.M ∧ (findSC r n s t k).now = s.now := by
 unfold findSC lookS
 split
 · split <;> exact ⟨rfl, rfl, rfl, rfl⟩
 · exact ⟨rfl, rfl, rfl, rfl⟩
theorem open_found (hr : ruleOk r = true) (hn : n = 2 ^ r.sl.toNat) (hi : TI n s) (t : Tup) (bk fl : Int) (h : openE s t bk fl = 0) :
  ∃ k c : Nat, openCk r s t bk fl = k ∧ k < 18446744073709551616 ∧ findOkC r n (openS r.cfg n s t bk fl) t k = true ∧ findVC r n (openS r.cfg n s t bk fl) t k = openV r.cfg s t bk fl ∧ c < n ∧ (s.E c).used = false ∧ (openS r.cfg n s t bk fl).E = updE s.E c (openV r.cfg s t bk fl) ∧ (openV r.cfg s t bk fl).t = t ∧ (openV r.cfg s t bk fl).bk = bk ∧ (openV r.cfg s t bk fl).sl = c ∧ (openV r.cfg s t bk fl).gen = (s.E c).gen ∧ (openV r.cfg s t bk fl).used = true := by
 cases ho : openOk t bk fl
 ·
  unfold openE at h
  rw [ho] at h
  cases h
 ·
  cases hL : s.L with
  | nil =>
   unfold openE at h
   rw [ho, hL] at h
   cases h
  | cons i l =>
   have hrng := hi.rng i (by rw [hL]; exact List.mem_cons_self)
   obtain ⟨c, rfl⟩ : ∃ c : Nat, i = (c : Int) := ⟨i.toNat, by omega⟩
   have hc : c < n := by omega
   have hnu : (s.E c).used = false := by
    cases hu : (s.E c).used
    · rfl
    · exact absurd (by rw [hL]; exact List.mem_cons_self) ((hi.used c hc).1 hu)
   have hv := openV_yes (c := r.cfg) ho hL
   have hs := openS_yes (c := r.cfg) (n := n) ho hL
   have hE : (openS r.cfg n s t bk fl).E = updE s.E c (openV r.cfg s t bk fl) := by rw [hs, Int.toNat_natCast]
   have hEc : (openS r.cfg n s t bk fl).E c = openV r.cfg s t bk fl := by rw [hE, updE_self]
   have hi' : TI n (openS r.cfg n s t bk fl) := hi.open t bk fl
   rw [Int.toNat_natCast] at hv
   have ht : (openV r.cfg s t bk fl).t = t := by rw [hv]; rfl
   have hu : (openV r.cfg s t bk fl).used = true := by rw [hv]; rfl
   have hg : (openV r.cfg s t bk fl).gen = (s.E c).gen := by rw [hv]; rfl
   have hsl : (openV r.cfg s t bk fl).sl = c := by rw [← hEc]; exact hi'.sl c hc
   have hgr := hi.gr c hc
   rw [← hg] at hgr
   have hck : openCk r s t bk fl = ckOf r (openV r.cfg s t bk fl) := by unfold openCk; rw [if_pos h]; rfl
   obtain ⟨k, hk, hk2⟩ := makeI_rng r.wd r.sl r.gn r.ka r.kb (openV r.cfg s t bk fl).t (openV r.cfg s t bk fl).sl hgr
   have hck2 : openCk r s t bk fl = k := hck.trans hk
   have hF := findC_at hr hn hi' hk2 (c := c) hc (by rw [hEc]; exact hu) (by rw [hEc]; exact hk)
   rw [hEc, ht] at hF
   exact ⟨k, c, hck2, hk2, hF.1, hF.2, hc, hnu, hE, ht, by rw [hv]; rfl, hsl, hg, hu⟩
theorem open_no {t : Tup} {bk fl : Int} (h : openE s t bk fl ≠ 0) : openS r.cfg n s t bk fl = s := by
 cases ho : openOk t bk fl
 · exact openS_no ho
 ·
  cases hL : s.L with
  | nil => exact openS_full hL
  | cons i l =>
   unfold openE at h
   rw [ho, hL] at h
   exact absurd rfl h
end
def TabsN (w0 w : World) (g : Nat) (r : TRule) (p n : Nat) (S : Nat → TSt) (K : Nat → Prop) : Prop :=
 (∀ i, i < p → TI n (S i)) ∧ r.cfg.right ∧ Below w0.heap.size w0 w ∧ ∃ X, TabsP w g r p n S X ∧ ∀ b, X b → w0.heap.size ≤ b ∧ ¬ K b
section
variable {w0 w w' : World} {g p n : Nat} {r : TRule} {S S' : Nat → TSt} {K K' F : Nat → Prop}
theorem TabsN.ti (h : TabsN w0 w g r p n S K) : ∀ i, i < p → TI n (S i) := h.1
theorem TabsN.below (h : TabsN w0 w g r p n S K) : Below w0.heap.size w0 w := h.2.2.1
theorem TabsN.size (h : TabsN w0 w g r p n S K) : w0.heap.size ≤ w.heap.size := h.2.2.1.size
theorem TabsN.rng (h : TabsN w0 w g r p n S K) : r.np = (p : Int) ∧ 1 ≤ p ∧ p ≤ 16 := by
 obtain ⟨-, -, -, X, h1, -⟩ := h
 exact h1.rng
theorem TabsN.chg (h : TabsN w0 w g r p n S K) (k : Chg F w w') (hF : ∀ b, F b → K b) (h0 : ∀ b, F b → w0.heap.size ≤ b) : TabsN w0 w' g r p n S K := by
 obtain ⟨hi, hr, hb, X, h1, h2⟩ := h
 exact ⟨hi, hr, below_chg hb k (fun b hb hx => by have := h0 b hx; omega) hb.size, X, h1.chg k (fun b hx hf => (h2 b hx).2 (hF b hf)), h2⟩
theorem TabsN.call (h : TabsN w0 w g r p n S K) (hb : Below w.heap.size w w') : TabsN w0 w' g r p n S (fun b => K b ∨ w.heap.size ≤ b ∧ b < w'.heap.size) := by
 obtain ⟨hi, hr, hb0, X, h1, h2⟩ := h
 refine ⟨hi, hr, below_chain hb hb0, X, h1.call hb, fun b hx => ⟨(h2 b hx).1, fun hk => ?_⟩⟩
 rcases hk with hk | hk
 · exact (h2 b hx).2 hk
 ·
  have := h1.lt hx
  omega
theorem TabsN.mono (h : TabsN w0 w g r p n S K) (hK : ∀ b, K' b → K b) : TabsN w0 w g r p n S K' := by
 obtain ⟨hi, hr, hb0, X, h1, h2⟩ := h
 exact ⟨hi, hr, hb0, X, h1, fun b hx => ⟨(h2 b hx).1, fun hk => (h2 b hx).2 (hK b hk)⟩⟩
theorem TabsN.call0 (h : TabsN w0 w g r p n S K) (hb : Below w.heap.size w w') : TabsN w0 w' g r p n S K := (h.call hb).mono fun _ hk => .inl hk
theorem TabsN.alloc (h : TabsN w0 w g r p n S K) (o : Obj) : TabsN w0 (w.alloc o) g r p n S (fun b => K b ∨ b = w.heap.size) :=
 (h.call (below_alloc (Below.refl _ _) o)).mono fun b hk => hk.imp id fun e => ⟨by omega, by rw [World.size_alloc]; omega⟩
theorem TabsN.drew (h : TabsN w0 w g r p n S K) : TabsN w0 w.drew g r p n S K := h.call0 (Below.refl _ _).drew
theorem rule_right (hr : ruleOk r = true) : r.cfg.right := by
 unfold ruleOk at hr
 simp only [Bool.and_eq_true] at hr
 exact right_idle hr.1.2
theorem updS_ti {i : Nat} {s : TSt} (h : ∀ i, i < p → TI n (S i)) (hs : TI n s) : ∀ j, j < p → TI n (updS S i s j) := fun j hj => by
 by_cases e : j = i
 ·
  subst e
  rw [updS_self]
  exact hs
 ·
  rw [updS_ne S s e]
  exact h j hj
theorem touchSC_ti {s : TSt} {t : Tup} {k fl : Int} (h : TI n s) : TI n (touchSC r n s t k fl) := by
 unfold touchSC
 split
 · exact h.findSC.touch _ _
 · exact h.findSC
end
def KeepE (n : Nat) (s s' : TSt) : Prop := ∀ k : Nat, k < n → (s'.E k).used = true → (s.E k).used = true ∧ (s'.E k).t = (s.E k).t ∧ (s'.E k).bk = (s.E k).bk
section
variable {n k : Nat} {s s' s2 : TSt} {r : TRule} {t : Tup}
theorem KeepE.of_eq (h : s'.E = s.E) : KeepE n s s' := fun k _ hu => by
 rw [h] at hu ⊢
 exact ⟨hu, rfl, rfl⟩
theorem KeepE.trans (h : KeepE n s s') (h2 : KeepE n s' s2) : KeepE n s s2 := fun k hk hu => by
 obtain ⟨a1, a2, a3⟩ := h2 k hk hu
 obtain ⟨b1, b2, b3⟩ := h k hk a1
 exact ⟨b1, a2.trans b2, a3.trans b3⟩
theorem keepE_clr (P : Nat → Prop) [DecidablePred P] (hE : ∀ k : Nat, k < n → s'.E k = if P k then clrS (s.E k) else s.E k) : KeepE n s s' := fun k hk hu => by
 rw [hE k hk] at hu ⊢
 by_cases hp : P k
 ·
  rw [if_pos hp] at hu
  cases hu
 ·
  rw [if_neg hp] at hu ⊢
  exact ⟨hu, rfl, rfl⟩
theorem keepE_touch {c : TCfg} (i fl : Int) : KeepE n s (touchS c n s i fl) := by
 cases hc : closeOk n s i
 ·
  rw [touchS_no hc]
  exact KeepE.of_eq (lookS_E _ _ _)
 ·
  obtain ⟨k, rfl, hk, hu⟩ := closeOk_iff.1 hc
  by_cases h4 : nextS (s.E ((k : Int)).toNat).st fl = 4
  ·
   rw [touchS_gone hc h4, Int.toNat_natCast]
   intro j hj hu2
   have e : (goS n (lookS n k s) k).E j = updE (lookS n k s).E k (clrS ((lookS n k s).E k)) j := rfl
   rw [e, lookS_E] at hu2 ⊢
   by_cases e : j = k
   ·
    subst e
    rw [updE_self] at hu2
    cases hu2
   ·
    rw [updE_ne _ _ e] at hu2 ⊢
    exact ⟨hu2, rfl, rfl⟩
  ·
   rw [touchS_stay hc h4]
   intro j hj hu2
   have hv := touchV_stay (c := c) hc h4
   rw [Int.toNat_natCast] at hv
   by_cases e : j = k
   ·
    subst e
    refine ⟨hu, ?_, ?_⟩
    ·
     show (updE s.E _ (touchV c n s j fl) j).t = _
     rw [Int.toNat_natCast, updE_self, hv]
     rfl
    ·
     show (updE s.E _ (touchV c n s j fl) j).bk = _
     rw [Int.toNat_natCast, updE_self, hv]
     rfl
   ·
    have e3 : updE s.E ((k : Int)).toNat (touchV c n s k fl) j = s.E j := by rw [Int.toNat_natCast]; exact updE_ne _ _ e
    have e4 : (updE s.E ((k : Int)).toNat (touchV c n s k fl) j).used = true := hu2
    show _ ∧ (updE s.E ((k : Int)).toNat (touchV c n s k fl) j).t = _ ∧ (updE s.E ((k : Int)).toNat (touchV c n s k fl) j).bk = _
    rw [e3] at e4 ⊢
    exact ⟨e4, rfl, rfl⟩
theorem keepE_find (k : Int) : KeepE n s (findSC r n s t k) := KeepE.of_eq (findSC_eq s t k).1
theorem keepE_touchSC (k fl : Int) : KeepE n s (touchSC r n s t k fl) := by
 unfold touchSC
 split
 · exact (keepE_find k).trans (keepE_touch _ _)
 · exact keepE_find k
theorem keepE_go (hi : TI n s) {G nw : Int} {S : List Int} (hS : GoS G s.now nw s.M S) : KeepE n s (goTab n s nw S) :=
 keepE_clr (fun k => (k : Int) ∈ S) fun k _ => (hi.go hS).2.1 k
theorem keepE_drop (hi : TI n s) (bk : Int) : KeepE n s (dropSC n bk s) :=
 keepE_clr (fun k => ((s.E k).used && (s.E k).bk == bk) = true) fun k hk => (hi.drop (fun x => x.bk == bk)).2.1 k hk
end
structure LI (r : TRule) (p n : Nat) (S : Nat → TSt) (b : Int) : Prop where
 ti : ∀ i, i < p → TI n (S i)
 pt : ∀ i, i < p → ∀ k : Nat, k < n → ((S i).E k).used = true → pIx r ((S i).E k).t = i
 now : ∀ i, i < p → (S i).now = (S 0).now
 lk : ∀ i, i < p → 0 ≤ (S i).lk ∧ (S i).lk ≤ b
section
variable {r : TRule} {p n : Nat} {S S' : Nat → TSt} {b b' : Int} {t : Tup}
theorem LI.new (r : TRule) (p n : Nat) : LI r p n (fun _ => sT0 n) 0 :=
 ⟨fun _ _ => TI.new n, fun i hi k hk hu => (by cases hu), fun _ _ => rfl, fun _ _ => ⟨Int.le_refl _, Int.le_refl _⟩⟩
theorem LI.mono (h : LI r p n S b) (hb : b ≤ b') : LI r p n S b' := ⟨h.ti, h.pt, h.now, fun i hi => ⟨(h.lk i hi).1, by have := (h.lk i hi).2; omega⟩⟩
theorem LI.all (h : LI r p n S b) (hti : ∀ i, i < p → TI n (S' i)) (hk : ∀ i, i < p → KeepE n (S i) (S' i)) (hn : ∀ i, i < p → (S' i).now = (S' 0).now) (hl : ∀ i, i < p → (S' i).lk = (S i).lk) : LI r p n S' b :=
 ⟨hti, fun i hi k hkn hu => by
  obtain ⟨a1, a2, -⟩ := hk i hi k hkn hu
  rw [a2]
  exact h.pt i hi k hkn a1, hn, fun i hi => by rw [hl i hi]; exact h.lk i hi⟩
theorem LI.upd (h : LI r p n S b) {i : Nat} {s' : TSt} (hti : TI n s') (hk : KeepE n (S i) s') (hn : s'.now = (S i).now) (hl : i < p → 0 ≤ s'.lk ∧ s'.lk ≤ b') (hb : b ≤ b') : LI r p n (updS S i s') b' where
 ti := fun j hj => by
  by_cases e : j = i
  ·
   subst e
   rw [updS_self]
   exact hti
  ·
   rw [updS_ne _ _ e]
   exact h.ti j hj
 pt := fun j hj k hkn hu => by
  by_cases e : j = i
  ·
   subst e
   rw [updS_self] at hu ⊢
   obtain ⟨a1, a2, -⟩ := hk k hkn hu
   rw [a2]
   exact h.pt j hj k hkn a1
  ·
   rw [updS_ne _ _ e] at hu ⊢
   exact h.pt j hj k hkn hu
 now := fun j hj => by
  have e1 : ∀ j, j < p → (updS S i s' j).now = (S j).now := fun j _ => by
   by_cases e : j = i
   ·
    subst e
    rw [updS_self, hn]
   · rw [updS_ne _ _ e]
  rw [e1 j hj, e1 0 (by omega)]
  exact h.now j hj
 lk := fun j hj => by
  by_cases e : j = i
  ·
   subst e
   rw [updS_self]
   exact hl hj
  ·
   rw [updS_ne _ _ e]
   have := h.lk j hj
   omega
theorem lookS_lk2 {s : TSt} (h : 0 ≤ s.lk ∧ s.lk ≤ 1000) (i : Int) : s.lk ≤ (lookS n i s).lk ∧ (lookS n i s).lk ≤ s.lk + 1 := by
 have := look_lk (n := n) h i
 omega
theorem findSC_lk {s : TSt} (h : 0 ≤ s.lk ∧ s.lk ≤ 1000) (t : Tup) (k : Int) : s.lk ≤ (findSC r n s t k).lk ∧ (findSC r n s t k).lk ≤ s.lk + 1 := by
 unfold findSC
 split
 · exact lookS_lk2 h _
 · omega
theorem touchSC_lk {s : TSt} (h : 0 ≤ s.lk ∧ s.lk ≤ 999) (t : Tup) (k fl : Int) : s.lk ≤ (touchSC r n s t k fl).lk ∧ (touchSC r n s t k fl).lk ≤ s.lk + 2 := by
 have h1 := findSC_lk (r := r) (n := n) (s := s) (by omega) t k
 unfold touchSC
 split
 ·
  have := (stepR_touch (n := n) (c := r.cfg) (s := findSC r n s t k) (by omega) (findVC r n s t k).sl fl).2
  omega
 · omega
theorem touchS_now {c : TCfg} {s : TSt} (i fl : Int) : (touchS c n s i fl).now = s.now := by
 have e : ∀ s : TSt, (lookS n i s).now = s.now := fun s => by unfold lookS; split <;> rfl
 cases hc : closeOk n s i
 ·
  rw [touchS_no hc]
  exact e s
 ·
  by_cases h4 : nextS (s.E i.toNat).st fl = 4
  ·
   rw [touchS_gone hc h4]
   exact e s
  · rw [touchS_stay hc h4]
theorem LI.touch (h : LI r p n S b) (hb : b ≤ 999) (hp : pIx r t < p) (k fl : Int) : LI r p n (updS S (pIx r t) (touchSC r n (S (pIx r t)) t k fl)) (b + 2) := by
 have hl := h.lk _ hp
 have := touchSC_lk (r := r) (n := n) (s := S (pIx r t)) (by omega) t k fl
 refine h.upd (touchSC_ti (h.ti _ hp)) (keepE_touchSC k fl) ?_ (fun _ => by omega) (by omega)
 unfold touchSC
 split
 ·
  rw [touchS_now]
  exact (findSC_eq _ t k).2.2.2
 · exact (findSC_eq _ t k).2.2.2
theorem LI.go (h : LI r p n S b) {nw : Int} {SS : Nat → List Int} (hS : ∀ i, i < p → GoS r.G (S i).now nw (S i).M (SS i)) : LI r p n (fun i => goTab n (S i) nw (SS i)) b :=
 h.all (fun i hi => ((h.ti i hi).go (hS i hi)).1) (fun i hi => keepE_go (h.ti i hi) (hS i hi)) (fun i hi => by
  rw [((h.ti i hi).go (hS i hi)).2.2.2.2.1, ((h.ti 0 (by omega)).go (hS 0 (by omega))).2.2.2.2.1, h.now i hi]) fun i hi => ((h.ti i hi).go (hS i hi)).2.2.2.2.2
theorem LI.drop (h : LI r p n S b) (bk : Int) : LI r p n (fun i => dropSC n bk (S i)) b :=
 h.all (fun i hi => ((h.ti i hi).drop _).1) (fun i hi => keepE_drop (h.ti i hi) bk) (fun i hi => by
  have e : ∀ i, i < p → (dropSC n bk (S i)).now = (S i).now := fun i hi => ((h.ti i hi).drop _).2.2.2.1
  rw [e i hi, e 0 (by omega)]
  exact h.now i hi) fun i hi => ((h.ti i hi).drop _).2.2.2.2
theorem LI.open (h : LI r p n S b) (hr : ruleOk r = true) (hn : n = 2 ^ r.sl.toNat) (hb : b ≤ 999) (hp : pIx r t < p) (bk fl : Int) : LI r p n (updS S (pIx r t) (openS r.cfg n (S (pIx r t)) t bk fl)) (b + 1) := by
 by_cases h0 : openE (S (pIx r t)) t bk fl = 0
 ·
  have hl := h.lk _ hp
  have hR := (stepR_open (c := r.cfg) (h.ti _ hp) (by omega) t bk fl).2
  obtain ⟨k, c, -, -, -, -, hc, -, hE, ht, -, -, -, -⟩ := open_found hr hn (h.ti _ hp) t bk fl h0
  refine ⟨fun j hj => ?_, fun j hj k hkn hu => ?_, fun j hj => ?_, fun j hj => ?_⟩
  ·
   by_cases e : j = pIx r t
   ·
    rw [e, updS_self]
    exact (h.ti _ hp).open t bk fl
   ·
    rw [updS_ne _ _ e]
    exact h.ti j hj
  ·
   by_cases e : j = pIx r t
   ·
    rw [e, updS_self, hE] at hu ⊢
    by_cases e2 : k = c
    · rw [e2, updE_self, ht]
    ·
     rw [updE_ne _ _ e2] at hu ⊢
     exact h.pt _ hp k hkn hu
   ·
    rw [updS_ne _ _ e] at hu ⊢
    exact h.pt j hj k hkn hu
  ·
   have e0 : (openS r.cfg n (S (pIx r t)) t bk fl).now = (S (pIx r t)).now := by
    cases ho : openOk t bk fl
    · rw [openS_no ho]
    ·
     cases hL : (S (pIx r t)).L with
     | nil => rw [openS_full hL]
     | cons i l => rw [openS_yes ho hL]
   have e1 : ∀ j, j < p → (updS S (pIx r t) (openS r.cfg n (S (pIx r t)) t bk fl) j).now = (S j).now := fun j _ => by
    by_cases e : j = pIx r t
    · rw [e, updS_self, e0]
    · rw [updS_ne _ _ e]
   rw [e1 j hj, e1 0 (by omega)]
   exact h.now j hj
  ·
   by_cases e : j = pIx r t
   ·
    rw [e, updS_self]
    omega
   ·
    rw [updS_ne _ _ e]
    have := h.lk j hj
    omega
 ·
  rw [open_no h0, updS_same]
  exact h.mono (by omega)
theorem mem_catF {α : Type} {f : Nat → List α} {x : α} : ∀ {p : Nat}, x ∈ catF f p ↔ ∃ i, i < p ∧ x ∈ f i
 | 0 => ⟨fun h => (by cases h), fun ⟨i, hi, _⟩ => by omega⟩
 | p + 1 => by
  rw [catF, List.mem_append, mem_catF (p := p)]
  constructor
  ·
   rintro (⟨i, hi, h⟩ | h)
   · exact ⟨i, by omega, h⟩
   · exact ⟨p, by omega, h⟩
  ·
   rintro ⟨i, hi, h⟩
   by_cases e : i = p
   ·
    subst e
    exact .inr h
   · exact .inl ⟨i, by omega, h⟩
theorem catF_congr {α : Type} {f f' : Nat → List α} : ∀ {p : Nat}, (∀ i, i < p → f i = f' i) → catF f p = catF f' p
 | 0, _ => rfl
 | p + 1, h => by
  rw [catF, catF, catF_congr (p := p) fun i hi => h i (by omega), h p (by omega)]
theorem mem_entsL {x : Slt} : x ∈ entsL n p S ↔ ∃ i, i < p ∧ ∃ k : Nat, k < n ∧ ((S i).E k).used = true ∧ (S i).E k = x := by
 unfold entsL
 rw [mem_catF]
 exact exists_congr fun i => and_congr Iff.rfl mem_liveL
def isB (r : TRule) (L : List Slt) (t : Tup) (k : Int) : Bool := L.any fun x => tupB x.t t && (ckOf r x == k)
theorem ents_free (hti : ∀ i, i < p → TI n (S i)) : ∀ q, q ≤ p → (entsL n q S).length + ((List.range q).map fun i => (S i).L.length).sum = q * n
 | 0, _ => by simp [entsL, catF]
 | q + 1, hq => by
  have ih := ents_free hti q (by omega)
  have := live_free (hti q (by omega))
  have e : entsL n (q + 1) S = entsL n q S ++ liveL n (S q) := rfl
  rw [e, List.length_append, List.range_succ, List.map_append, List.sum_append, Nat.succ_mul]
  simp
  omega
end
section
variable {w w' : World} {g p n : Nat} {r : TRule} {S : Nat → TSt} {X F : Nat → Prop}
end
end Go.Proofs.YteklkljndchjiaaGreat
