/- tables: Live, Looks, Free, Cookie, Drop and Go of tables told by their blocks. -/
import Derived.Test.YtbmmklgkbbbopaaGreatJ17
import Derived.Test.YtbmmklgkbbbopaaGreatJ40
import Derived.Test.YtbmmklgkbbbopaaGreatJ38
namespace Go.Proofs.YtbmmklgkbbbopaaGreat
open Go Go.RowKit Go.Deep Go.Maps Go.ChangeMaps

theorem ent_oneC (x : Slt) : ∀ u ∈ x.ent, u.oneCell' = true := fun u hu => by
  unfold Slt.ent at hu
  simp at hu
  rcases hu with rfl | rfl | rfl | rfl | rfl | rfl | rfl | rfl | rfl | rfl | rfl | rfl | rfl | rfl <;> rfl
/-- The first k parts as they are behind, the others as they were. -/
def selS (S S' : Nat → TSt) (k : Nat) : Nat → TSt := fun i => if i < k then S' i else S i
theorem selS_zero (S S' : Nat → TSt) : selS S S' 0 = S := by
  funext i
  exact if_neg (by omega)
theorem selS_at (S S' : Nat → TSt) (k : Nat) : selS S S' k k = S k := if_neg (by omega)
theorem selS_succ (S S' : Nat → TSt) (k : Nat) : updS (selS S S' k) k (S' k) = selS S S' (k + 1) := by
  funext i
  unfold updS selS
  by_cases e : i = k
  · subst e
    rw [if_pos rfl, if_pos (by omega)]
  · rw [if_neg e]
    by_cases h : i < k
    · rw [if_pos h, if_pos (by omega)]
    · rw [if_neg h, if_neg (by omega)]
/-- All entries of all parts. -/
def entsL (n p : Nat) (S : Nat → TSt) : List Slt := catF (fun i => liveL n (S i)) p
def dropL (n : Nat) (bk : Int) (s : TSt) : List Nat := allL s.E (fun x => x.bk == bk) n
theorem ents_len (n : Nat) (E : Nat → Slt) (P : Slt → Bool) : (entsOf E (allL E P n)).length ≤ n := by
  unfold entsOf
  rw [List.length_map]
  exact allL_len E P n
theorem goS_one {G now nw : Int} {M : LM} {S D : List Int} (h : GoS G now nw M S) (k : GoS G now nw M D) : S = D := by
  refine leT_eq S D h.pw k.pw ?_
  cases hg : goOk now nw
  · rw [h.no hg, k.no hg]
  · exact (List.perm_ext_iff_of_nodup h.nd k.nd).2 fun x => (h.mem hg x).trans (k.mem hg x).symm
section
variable {w w' : World} {g p n pb q : Nat} {r : TRule} {S : Nat → TSt} {X F : Nat → Prop} {gs sbs : Nat → Nat} {Xs : Nat → Nat → Prop}
/-- The states told by the parts below p alone. -/
theorem TabsW.congr {S' : Nat → TSt} (h : TabsW w g r p n S X pb q gs sbs Xs) (e : ∀ i, i < p → S i = S' i) : TabsW w g r p n S' X pb q gs sbs Xs :=
  ⟨h.blk, h.ps, fun i hi => e i hi ▸ h.tab i hi, h.off, h.dis, h.all, h.pbl, h.np, h.p1, h.p16⟩
theorem tabs_live (h : TabsP w g r p n S X) :
    Calls Tryz.prog 26 #[.pointer (some ⟨g, 0, none⟩)] w fun e w' => ∃ (A : Option Addr) (a : Nat), e = .returned (.slice A (entsL n p S).length a) ∧ OwnE w' w.heap.size A a (entsL n p S) ∧ Below w.heap.size w w' := by
  obtain ⟨pb, q, gs, sbs, Xs, h⟩ := h
  have hlt := fun y (hy : X y) => h.lt hy
  have hn := tabP_rng (h.tab 0 (by have := h.p1; omega))
  exact tabs_live_gen (cells := Slt.ent) ent_oneC g pb p q gs h.p16 (fun i => liveL n (S i)) (fun i => Nat.le_trans (ents_len _ _ _) hn) w (fun W => TabsW W g r p n S X pb q gs sbs Xs) h (fun W hW => ⟨hW.read.c11, hW.read.ps⟩)
    (fun F W W' hW hc hF => hW.chg hc fun y hy e => by have := hF y e; have := hlt y hy; omega) (fun i W hi hW => tab_live (hW.tab i hi))
theorem tabs_looks (h : TabsP w g r p n S X) :
    Calls Tryz.prog 27 #[.pointer (some ⟨g, 0, none⟩)] w fun e w' => e = .returned (.int .i64 (sumF (fun i => (S i).lk) p)) ∧ Below w.heap.size w w' := by
  obtain ⟨pb, q, gs, sbs, Xs, h⟩ := h
  have hlt := fun y (hy : X y) => h.lt hy
  exact tabs_looks_gen g pb p q gs h.p16 (fun i => (S i).lk) w (fun W => TabsW W g r p n S X pb q gs sbs Xs) h (fun W hW => ⟨hW.read.c11, hW.read.ps⟩)
    (fun F W W' hW hc hF => hW.chg hc fun y hy e => by have := hF y e; have := hlt y hy; omega) (fun i W hi hW => tab_looks (hW.tab i hi))
theorem tabs_freeP (h : TabsP w g r p n S X) (at_ : Int) : Calls Tryz.prog 29 #[.pointer (some ⟨g, 0, none⟩), .int .i64 at_] w fun e w' => e = .returned (.int .i64 (freeI p S at_)) ∧ w = w' := by
  obtain ⟨pb, q, gs, sbs, Xs, h⟩ := h
  exact tabs_free h.read at_ fun i hi => tab_free (h.tab i hi)
theorem tabs_cookieP (h : TabsP w g r p n S X) (x : Slt) (hx : 0 ≤ x.gen ∧ x.gen < 18446744073709551616) : Calls Tryz.prog 31 #[.pointer (some ⟨g, 0, none⟩), x.val] w fun e w' => e = .returned (.int .u64 (makeI r.wd r.sl r.gn r.ka r.kb x.t x.sl x.gen)) ∧ Below w.heap.size w w' := by
  obtain ⟨pb, q, gs, sbs, Xs, h⟩ := h
  exact tabs_cookie h.read x hx
/-- What the rounds of Go and Drop ask. -/
theorem tableT (g r p n pb q : _) (gs : Nat → Nat) (Sk : Nat → Nat → TSt) : TableT (fun k W X' => ∃ sbs Xs, TabsW W g r p n (Sk k) X' pb q gs sbs Xs) g pb p q gs where
  lt := fun ⟨_, _, h⟩ _ hy => h.lt hy
  chg := fun ⟨_, _, h⟩ hc hF => ⟨_, _, h.chg hc hF⟩
  cells := fun ⟨_, _, h⟩ => ⟨h.read.c11, h.read.ps⟩
/-- Tables have gone on, a result beside them. -/
def TabsTo2 (w w' : World) (A : Option Addr) (g : Nat) (r : TRule) (p n : Nat) (S : Nat → TSt) (X : Nat → Prop) : Prop :=
  ∃ X', TabsP w' g r p n S X' ∧ Chg X w w' ∧ (∀ y, X' y → X y ∨ w.heap.size ≤ y) ∧ ∀ y, X' y → ¬ InB A y
theorem TabsTo2.to {A : Option Addr} (h : TabsTo2 w w' A g r p n S X) : TabsTo w w' g r p n S X := by
  obtain ⟨X', h1, h2, h3, -⟩ := h
  exact ⟨X', h1, h2, h3⟩
def dropSC (n : Nat) (bk : Int) (s : TSt) : TSt := dropS n s (dropL n bk s)
theorem tabs_drop (h : TabsP w g r p n S X) (hTI : ∀ i, i < p → TI n (S i)) (bk : Int) :
    Calls Tryz.prog 23 #[.pointer (some ⟨g, 0, none⟩), .int .i64 bk] w fun e w' => ∃ (A : Option Addr) (a : Nat), e = .returned (.slice A (catF (fun i => entsOf (S i).E (dropL n bk (S i))) p).length a) ∧ OwnE w' w.heap.size A a (catF (fun i => entsOf (S i).E (dropL n bk (S i))) p) ∧ TabsTo2 w w' A g r p n (fun i => dropSC n bk (S i)) X := by
  obtain ⟨pb, q, gs, sbs, Xs, h⟩ := h
  have hlt := fun y (hy : X y) => h.lt hy
  have hn := tabP_rng (h.tab 0 (by have := h.p1; omega))
  refine (tabs_drop_gen (cells := Slt.ent) ent_oneC g pb p q gs h.p16 (fun i => entsOf (S i).E (dropL n bk (S i))) (fun i => Nat.le_trans (ents_len _ _ _) hn) bk w X hlt _ (tableT g r p n pb q gs (selS S fun i => dropSC n bk (S i))) ⟨sbs, Xs, by rw [selS_zero]; exact h⟩ ?_).mono ?_
  · rintro k W X' hk ⟨sbs1, Xs1, h1⟩
    have h2 := h1.tab k hk
    rw [selS_at] at h2
    refine (tab_drop h2 (hTI k hk).sl bk).mono ?_
    rintro e w1 ⟨A, a, rfl, hO, hT⟩
    obtain ⟨Xs2, X2, k1, k2, k3⟩ := h1.part hk hT
    refine ⟨A, a, rfl, hO, X2, ⟨sbs1, Xs2, ?_⟩, k2, k3⟩
    have e := selS_succ S (fun i => dropSC n bk (S i)) k
    try dsimp only at e
    rw [← e]
    exact k1
  · rintro e w1 ⟨A, a, rfl, hO, X', ⟨sbs1, Xs1, h1⟩, h2, h3, h4⟩
    exact ⟨A, a, rfl, hO, X', ⟨_, _, _, _, _, h1.congr fun i hi => if_pos hi⟩, h2, h3, h4⟩
theorem goTab_no {s : TSt} {nw : Int} (h : goOk s.now nw = false) : goTab n s nw [] = s := by
  unfold goTab goAll goN
  rw [h]
  rfl
/-- Go at a time that may be. -/
theorem tabs_go (h : TabsP w g r p n S X) (hTI : ∀ i, i < p → TI n (S i)) (nw : Int) (hk : ∀ i, i < p → goOk (S i).now nw = true) :
    Calls Tryz.prog 20 #[.pointer (some ⟨g, 0, none⟩), .int .i64 nw] w fun e w' => ∃ (A : Option Addr) (a : Nat) (SS : Nat → List Int), e = .returned (.tuple #[.slice A (catF (fun i => goEnts (S i) (SS i)) p).length a, .int .i64 0]) ∧ (∀ i, i < p → GoS r.G (S i).now nw (S i).M (SS i)) ∧ OwnE w' w.heap.size A a (catF (fun i => goEnts (S i) (SS i)) p) ∧ TabsTo2 w w' A g r p n (fun i => goTab n (S i) nw (SS i)) X := by
  obtain ⟨pb, q, gs, sbs, Xs, h⟩ := h
  have hlt := fun y (hy : X y) => h.lt hy
  have hn := tabP_rng (h.tab 0 (by have := h.p1; omega))
  have hch : ∀ i, ∃ L : List Int, L.length ≤ 4096 ∧ ∀ D, GoS r.G (S i).now nw (S i).M D → D.length ≤ 4096 → L = D := fun i => by
    by_cases hE : ∃ D : List Int, GoS r.G (S i).now nw (S i).M D ∧ D.length ≤ 4096
    · obtain ⟨D, h1, h2⟩ := hE
      exact ⟨D, h2, fun D' h3 _ => goS_one h1 h3⟩
    · exact ⟨[], by simp, fun D h1 h2 => absurd ⟨D, h1, h2⟩ hE⟩
  obtain ⟨SS, hSS⟩ := Classical.axiomOfChoice hch
  refine (tabs_go_gen (cells := Slt.ent) ent_oneC g pb p q gs h.p16 h.p1 (fun i => goEnts (S i) (SS i)) (fun i => by unfold goEnts; rw [List.length_map]; exact (hSS i).1) nw w X hlt (fun k W X' => (∀ i, i < k → GoS r.G (S i).now nw (S i).M (SS i)) ∧ ∃ sbs Xs, TabsW W g r p n (selS S (fun i => goTab n (S i) nw (SS i)) k) X' pb q gs sbs Xs) ⟨fun ⟨_, _, _, h⟩ _ hy => h.lt hy, fun ⟨k1, _, _, h⟩ hc hF => ⟨k1, _, _, h.chg hc hF⟩, fun ⟨_, _, _, h⟩ => ⟨h.read.c11, h.read.ps⟩⟩ ⟨fun i hi => by omega, sbs, Xs, by rw [selS_zero]; exact h⟩ ?_).mono ?_
  · rintro k W X' hkp ⟨hb, sbs1, Xs1, h1⟩
    have h2 := h1.tab k hkp
    rw [selS_at] at h2
    refine (tab_go h2 (hTI k hkp).sl (hTI k hkp).hasN nw).mono ?_
    rintro e w1 ⟨A, a, D, rfl, hG, hO, hR, hT⟩
    have hD : SS k = D := (hSS k).2 D hG (Nat.le_trans (nodup_len n D hG.nd hR) hn)
    subst hD
    obtain ⟨Xs2, X2, k1, k2, k3⟩ := h1.part hkp hT
    refine ⟨A, a, ?_, hO, X2, ⟨fun i hi => ?_, sbs1, Xs2, ?_⟩, k2, k3⟩
    · unfold goE goEnts
      rw [hk k hkp, List.length_map]
      rfl
    · by_cases e : i = k
      · subst e
        exact hG
      · exact hb i (by omega)
    · have e := selS_succ S (fun i => goTab n (S i) nw (SS i)) k
      try dsimp only at e
      rw [← e]
      exact k1
  · rintro e w1 ⟨A, a, rfl, hO, X', ⟨hb, sbs1, Xs1, h1⟩, h2, h3, h4⟩
    exact ⟨A, a, SS, rfl, hb, hO, X', ⟨_, _, _, _, _, h1.congr fun i hi => if_pos hi⟩, h2, h3, h4⟩
/-- Go at a time that may not be. -/
theorem tabs_go_no (h : TabsP w g r p n S X) (hTI : ∀ i, i < p → TI n (S i)) (nw : Int) (hk : goOk (S 0).now nw = false) :
    Calls Tryz.prog 20 #[.pointer (some ⟨g, 0, none⟩), .int .i64 nw] w fun e w' => e = .returned (.tuple #[.slice none 0 0, .int .i64 15]) ∧ TabsTo w w' g r p n S X := by
  obtain ⟨pb, q, gs, sbs, Xs, h⟩ := h
  have hlt := fun y (hy : X y) => h.lt hy
  have hp : 0 < p := by have := h.p1; omega
  refine (tabs_go_err g pb p q gs h.p16 h.p1 nw w X hlt _ (tableT g r p n pb q gs (fun _ => S)) ⟨sbs, Xs, h⟩ 15 (by omega) ?_).mono ?_
  · rintro W X' ⟨sbs1, Xs1, h1⟩
    refine (tab_go (h1.tab 0 hp) (hTI 0 hp).sl (hTI 0 hp).hasN nw).mono ?_
    rintro e w1 ⟨A, a, D, rfl, hG, hO, hR, hT⟩
    rw [hG.no hk, goTab_no hk] at hT
    obtain ⟨Xs2, X2, k1, k2, k3⟩ := h1.part hp hT
    rw [updS_same] at k1
    refine ⟨A, D.length, a, ?_, X2, ⟨sbs1, Xs2, k1⟩, k2, k3⟩
    unfold goE
    rw [hk]
    rfl
  · rintro e w1 ⟨rfl, X', ⟨sbs1, Xs1, h1⟩, h2, h3⟩
    exact ⟨rfl, X', ⟨_, _, _, _, _, h1⟩, h2, h3⟩
end
end Go.Proofs.YtbmmklgkbbbopaaGreat
