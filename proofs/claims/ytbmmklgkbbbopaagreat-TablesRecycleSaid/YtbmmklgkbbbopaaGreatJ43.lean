/- tables: tables in a law's world: what is true of them, and the blocks that are not their own. tables: a cookie and its entry, in plain words. tables: the chapter's example, called. -/
import Derived.Test.YtbmmklgkbbbopaaGreatJ39
import Derived.Test.YtbmmklgkbbbopaaGreatJ41
import Derived.Test.YtbmmklgkbbbopaaGreatJ24
import Derived.Test.YtbmmklgkbbbopaaGreatJ33
import Derived.Test.YtbmmklgkbbbopaaGreatJ42
namespace Go.Proofs.YtbmmklgkbbbopaaGreat
open Go Go.RowKit Go.Deep Go.Maps Go.ChangeMaps

/-- A law's blocks that are not of the tables', K; all that came behind the law's first world w0. -/
def TabsN (w0 w : World) (g : Nat) (r : TRule) (p n : Nat) (S : Nat → TSt) (K : Nat → Prop) : Prop :=
  (∀ i, i < p → TI n (S i)) ∧ r.cfg.right ∧ Below w0.heap.size w0 w ∧ ∃ X, TabsP w g r p n S X ∧ ∀ b, X b → w0.heap.size ≤ b ∧ ¬ K b
section
variable {w0 w w' : World} {g p n : Nat} {r : TRule} {S S' : Nat → TSt} {K K' F : Nat → Prop}
theorem TabsN.ti (h : TabsN w0 w g r p n S K) : ∀ i, i < p → TI n (S i) := h.1
theorem TabsN.below (h : TabsN w0 w g r p n S K) : Below w0.heap.size w0 w := h.2.2.1
theorem TabsN.size (h : TabsN w0 w g r p n S K) : w0.heap.size ≤ w.heap.size := h.2.2.1.size
theorem TabsN.rng (h : TabsN w0 w g r p n S K) : r.np = (p : Int) ∧ 1 ≤ p ∧ p ≤ 16 := by
  obtain ⟨-, -, -, X, h1, -⟩ := h
  exact h1.rng
theorem tabsn_to {X : Nat → Prop} (hi : ∀ i, i < p → TI n (S' i)) (hr : r.cfg.right) (hb : Below w0.heap.size w0 w) (h2 : ∀ b, X b → w0.heap.size ≤ b ∧ ¬ K b) (hK : ∀ b, K b → b < w.heap.size) (t : TabsTo w w' g r p n S' X) : TabsN w0 w' g r p n S' K ∧ Chg (Nk w0 K) w w' := by
  obtain ⟨X', k1, k2, k3⟩ := t
  have hz := hb.size
  refine ⟨⟨hi, hr, below_chg hb k2 (fun b hb hx => by have := (h2 b hx).1; omega) hz, X', k1, fun b hx => ?_⟩, k2.mono fun b _ hx => h2 b hx⟩
  rcases k3 b hx with h | h
  · exact h2 b h
  · exact ⟨by omega, fun hk => by have := hK b hk; omega⟩
/-- A world that keeps the tables' blocks. -/
theorem TabsN.chg (h : TabsN w0 w g r p n S K) (k : Chg F w w') (hF : ∀ b, F b → K b) (h0 : ∀ b, F b → w0.heap.size ≤ b) : TabsN w0 w' g r p n S K := by
  obtain ⟨hi, hr, hb, X, h1, h2⟩ := h
  exact ⟨hi, hr, below_chg hb k (fun b hb hx => by have := h0 b hx; omega) hb.size, X, h1.chg k (fun b hx hf => (h2 b hx).2 (hF b hf)), h2⟩
theorem TabsN.call (h : TabsN w0 w g r p n S K) (hb : Below w.heap.size w w') : TabsN w0 w' g r p n S (fun b => K b ∨ w.heap.size ≤ b ∧ b < w'.heap.size) := by
  obtain ⟨hi, hr, hb0, X, h1, h2⟩ := h
  refine ⟨hi, hr, below_chain hb hb0, X, h1.call hb, fun b hx => ⟨(h2 b hx).1, fun hk => ?_⟩⟩
  rcases hk with hk | hk
  · exact (h2 b hx).2 hk
  · have := h1.lt hx
    omega
theorem TabsN.mono (h : TabsN w0 w g r p n S K) (hK : ∀ b, K' b → K b) : TabsN w0 w g r p n S K' := by
  obtain ⟨hi, hr, hb0, X, h1, h2⟩ := h
  exact ⟨hi, hr, hb0, X, h1, fun b hx => ⟨(h2 b hx).1, fun hk => (h2 b hx).2 (hK b hk)⟩⟩
theorem TabsN.call0 (h : TabsN w0 w g r p n S K) (hb : Below w.heap.size w w') : TabsN w0 w' g r p n S K := (h.call hb).mono fun _ hk => .inl hk
theorem TabsN.alloc (h : TabsN w0 w g r p n S K) (o : Obj) : TabsN w0 (w.alloc o) g r p n S (fun b => K b ∨ b = w.heap.size) :=
  (h.call (below_alloc (Below.refl _ _) o)).mono fun b hk => hk.imp id fun e => ⟨by omega, by rw [World.size_alloc]; omega⟩
theorem TabsN.drew (h : TabsN w0 w g r p n S K) : TabsN w0 w.drew g r p n S K := h.call0 (Below.refl _ _).drew
theorem rule_right (hr : ruleOk r = true) : r.cfg.right := by
  unfold ruleOk at hr
  simp only [Bool.and_eq_true] at hr
  exact right_idle hr.1.2
theorem tabsn_new (hr : ruleOk r = true) (hw : Below w0.heap.size w0 w) (hK : ∀ b, K b → b < w.heap.size) :
    Calls Tryz.prog 9 #[r.val] w fun e w' => ∃ g, e = .returned (.tuple #[.pointer (some ⟨g, 0, none⟩), .int .i64 0]) ∧ TabsN w0 w' g r r.np.toNat (2 ^ r.sl.toNat) (fun _ => sT0 (2 ^ r.sl.toNat)) K ∧ Below w.heap.size w w' := by
  refine (tabs_new r hr w).mono ?_
  rintro e w' ⟨g, X, rfl, h1, h2, h3⟩
  have hz := hw.size
  exact ⟨g, rfl, ⟨fun _ _ => TI.new _, rule_right hr, below_chain h2 hw, X, h1, fun b hx => ⟨by have := h3 b hx; omega, fun hk => by have := hK b hk; have := h3 b hx; omega⟩⟩, h2⟩
theorem updS_ti {i : Nat} {s : TSt} (h : ∀ i, i < p → TI n (S i)) (hs : TI n s) : ∀ j, j < p → TI n (updS S i s j) := fun j hj => by
  by_cases e : j = i
  · subst e
    rw [updS_self]
    exact hs
  · rw [updS_ne S s e]
    exact h j hj
theorem touchSC_ti {s : TSt} {t : Tup} {k fl : Int} (h : TI n s) : TI n (touchSC r n s t k fl) := by
  unfold touchSC
  split
  · exact h.findSC.touch _ _
  · exact h.findSC
theorem tabsn_open (h : TabsN w0 w g r p n S K) (hK : ∀ b, K b → b < w.heap.size) (t : Tup) (bk fl : Int) :
    Calls Tryz.prog 14 #[.pointer (some ⟨g, 0, none⟩), t.val, .int .i64 bk, .int .i64 fl] w fun e w' => e = .returned (.tuple #[(openV r.cfg (S (pIx r t)) t bk fl).val, .int .u64 (openCk r (S (pIx r t)) t bk fl), .int .i64 (openE (S (pIx r t)) t bk fl)]) ∧ TabsN w0 w' g r p n (updS S (pIx r t) (openS r.cfg n (S (pIx r t)) t bk fl)) K ∧ Chg (Nk w0 K) w w' := by
  obtain ⟨hi, hr, hb, X, h1, h2⟩ := h
  obtain ⟨hnp, hp1, hp16⟩ := h1.rng
  obtain ⟨-, hpl⟩ := pIx_eq r t hnp hp1 hp16
  refine (tabs_open h1 hi hr t bk fl).mono ?_
  rintro e w' ⟨rfl, hT⟩
  exact ⟨rfl, tabsn_to (updS_ti hi ((hi _ hpl).open t bk fl)) hr hb h2 hK hT⟩
theorem tabsn_find (h : TabsN w0 w g r p n S K) (hK : ∀ b, K b → b < w.heap.size) (t : Tup) (k : Nat) (hk : k < 18446744073709551616) :
    Calls Tryz.prog 16 #[.pointer (some ⟨g, 0, none⟩), t.val, .int .u64 (k : Int)] w fun e w' => e = .returned (.tuple #[(findVC r n (S (pIx r t)) t k).val, .bool (findOkC r n (S (pIx r t)) t k)]) ∧ TabsN w0 w' g r p n (updS S (pIx r t) (findSC r n (S (pIx r t)) t k)) K ∧ Chg (Nk w0 K) w w' := by
  obtain ⟨hi, hr, hb, X, h1, h2⟩ := h
  obtain ⟨hnp, hp1, hp16⟩ := h1.rng
  obtain ⟨-, hpl⟩ := pIx_eq r t hnp hp1 hp16
  refine (tabs_find h1 t k hk).mono ?_
  rintro e w' ⟨rfl, hT⟩
  exact ⟨rfl, tabsn_to (updS_ti hi (hi _ hpl).findSC) hr hb h2 hK hT⟩
theorem tabsn_touch (h : TabsN w0 w g r p n S K) (hK : ∀ b, K b → b < w.heap.size) (t : Tup) (k : Nat) (hk : k < 18446744073709551616) (fl : Int) :
    Calls Tryz.prog 18 #[.pointer (some ⟨g, 0, none⟩), t.val, .int .u64 (k : Int), .int .i64 fl] w fun e w' => e = .returned (.tuple #[(touchVC r n (S (pIx r t)) t k fl).val, .bool (touchOkC r n (S (pIx r t)) t k)]) ∧ TabsN w0 w' g r p n (updS S (pIx r t) (touchSC r n (S (pIx r t)) t k fl)) K ∧ Chg (Nk w0 K) w w' := by
  obtain ⟨hi, hr, hb, X, h1, h2⟩ := h
  obtain ⟨hnp, hp1, hp16⟩ := h1.rng
  obtain ⟨-, hpl⟩ := pIx_eq r t hnp hp1 hp16
  refine (tabs_touch h1 hi hr t k hk fl).mono ?_
  rintro e w' ⟨rfl, hT⟩
  exact ⟨rfl, tabsn_to (updS_ti hi (touchSC_ti (hi _ hpl))) hr hb h2 hK hT⟩
theorem tabsn_go (h : TabsN w0 w g r p n S K) (hK : ∀ b, K b → b < w.heap.size) (nw : Int) (hnow : ∀ i, i < p → (S i).now = (S 0).now) :
    Calls Tryz.prog 20 #[.pointer (some ⟨g, 0, none⟩), .int .i64 nw] w fun e w' => ∃ (A : Option Addr) (a : Nat) (SS : Nat → List Int), e = .returned (.tuple #[.slice A (catF (fun i => goEnts (S i) (SS i)) p).length a, .int .i64 (goE (S 0).now nw)]) ∧ (∀ i, i < p → GoS r.G (S i).now nw (S i).M (SS i)) ∧ OwnE w' w.heap.size A a (catF (fun i => goEnts (S i) (SS i)) p) ∧ TabsN w0 w' g r p n (fun i => goTab n (S i) nw (SS i)) K ∧ Chg (Nk w0 K) w w' := by
  obtain ⟨hi, hr, hb, X, h1, h2⟩ := h
  have hp : 0 < p := h1.rng.2.1
  unfold goE
  cases hg : goOk (S 0).now nw
  · refine (tabs_go_no h1 hi nw hg).mono ?_
    rintro e w' ⟨rfl, hT⟩
    have hcat : ∀ m, catF (fun i => goEnts (S i) []) m = [] := fun m => by
      induction m with
      | zero => rfl
      | succ m ih => rw [catF, ih]; rfl
    refine ⟨none, 0, fun _ => [], by rw [hcat]; rfl, fun i hip => ⟨fun _ => rfl, fun e => (by rw [hnow i hip, hg] at e; cases e), List.nodup_nil, List.Pairwise.nil⟩, by rw [hcat]; exact OwnA.nil _ _, ?_⟩
    have hT2 := tabsn_to hi hr hb h2 hK hT
    refine ⟨?_, hT2.2⟩
    obtain ⟨k1, k2, k3, X', ⟨pb, q, gs, sbs, Xs, k4⟩, k5⟩ := hT2.1
    have hS : ∀ i, i < p → S i = goTab n (S i) nw [] := fun i hip => (goTab_no (by rw [hnow i hip]; exact hg)).symm
    exact ⟨fun i hip => (by have := k1 i hip; rw [hS i hip] at this; exact this), k2, k3, X', ⟨pb, q, gs, sbs, Xs, k4.congr hS⟩, k5⟩
  · refine (tabs_go h1 hi nw fun i hip => by rw [hnow i hip]; exact hg).mono ?_
    rintro e w' ⟨A, a, SS, rfl, hG, hO, hT⟩
    exact ⟨A, a, SS, rfl, hG, hO, tabsn_to (fun i hip => ((hi i hip).go (hG i hip)).1) hr hb h2 hK hT.to⟩
theorem tabsn_drop (h : TabsN w0 w g r p n S K) (hK : ∀ b, K b → b < w.heap.size) (bk : Int) :
    Calls Tryz.prog 23 #[.pointer (some ⟨g, 0, none⟩), .int .i64 bk] w fun e w' => ∃ (A : Option Addr) (a : Nat), e = .returned (.slice A (catF (fun i => entsOf (S i).E (dropL n bk (S i))) p).length a) ∧ OwnE w' w.heap.size A a (catF (fun i => entsOf (S i).E (dropL n bk (S i))) p) ∧ TabsN w0 w' g r p n (fun i => dropSC n bk (S i)) K ∧ Chg (Nk w0 K) w w' := by
  obtain ⟨hi, hr, hb, X, h1, h2⟩ := h
  refine (tabs_drop h1 hi bk).mono ?_
  rintro e w' ⟨A, a, rfl, hO, hT⟩
  exact ⟨A, a, rfl, hO, tabsn_to (fun i hip => ((hi i hip).drop _).1) hr hb h2 hK hT.to⟩
theorem tabsn_live (h : TabsN w0 w g r p n S K) :
    Calls Tryz.prog 26 #[.pointer (some ⟨g, 0, none⟩)] w fun e w' => ∃ (A : Option Addr) (a : Nat), e = .returned (.slice A (entsL n p S).length a) ∧ OwnE w' w.heap.size A a (entsL n p S) ∧ Below w.heap.size w w' := by
  obtain ⟨hi, hr, hb, X, h1, h2⟩ := h
  exact tabs_live h1
theorem tabsn_looks (h : TabsN w0 w g r p n S K) : Calls Tryz.prog 27 #[.pointer (some ⟨g, 0, none⟩)] w fun e w' => e = .returned (.int .i64 (sumF (fun i => (S i).lk) p)) ∧ Below w.heap.size w w' := by
  obtain ⟨hi, hr, hb, X, h1, h2⟩ := h
  exact tabs_looks h1
theorem tabsn_free (h : TabsN w0 w g r p n S K) (i : Int) : Calls Tryz.prog 29 #[.pointer (some ⟨g, 0, none⟩), .int .i64 i] w fun e w' => e = .returned (.int .i64 (freeI p S i)) ∧ w = w' := by
  obtain ⟨hi, hr, hb, X, h1, h2⟩ := h
  exact tabs_freeP h1 i
theorem tabsn_cookie (h : TabsN w0 w g r p n S K) (x : Slt) (hx : 0 ≤ x.gen ∧ x.gen < 18446744073709551616) : Calls Tryz.prog 31 #[.pointer (some ⟨g, 0, none⟩), x.val] w fun e w' => e = .returned (.int .u64 (makeI r.wd r.sl r.gn r.ka r.kb x.t x.sl x.gen)) ∧ Below w.heap.size w w' := by
  obtain ⟨hi, hr, hb, X, h1, h2⟩ := h
  exact tabs_cookieP h1 x hx
end
end Go.Proofs.YtbmmklgkbbbopaaGreat

namespace Go.Proofs.YtbmmklgkbbbopaaGreat
open Go Go.RowKit Go.Deep Go.Maps Go.ChangeMaps

/-- A cookie made is the one that opens so. -/
theorem cook_iff {wd : Bool} {sl gn a b : Int} {t : Tup} {c : Nat} {gen : Int} {n : Nat} (hl : layOk wd sl gn = true) (hc : c < 2 ^ sl.toNat) (hg : 0 ≤ gen ∧ gen < 18446744073709551616) (hn : n < 18446744073709551616) :
    makeI wd sl gn a b t c gen = n ↔ openOkC wd sl gn a b t n = true ∧ openSl wd sl gn a b t n = c ∧ openGn wd sl gn a b t n = ((gen.toNat % 2 ^ gn.toNat : Nat) : Int) := by
  obtain ⟨A, B, rfl, rfl, h12, hAB⟩ := layOk_nat hl
  obtain ⟨G, rfl⟩ : ∃ G : Nat, gen = G := ⟨gen.toNat, by omega⟩
  rw [Int.toNat_natCast] at hc
  rw [Int.toNat_natCast, Int.toNat_natCast]
  have hpk : packOk wd A B c = true := by
    unfold packOk
    rw [hl, Bool.true_and, decide_eq_true_eq, Int.toNat_natCast]
    exact ⟨by omega, by exact_mod_cast hc⟩
  have hA63 : A + B ≤ 63 := by split at hAB <;> omega
  have hpl := packV_lt (gn := B) (gen := G) hc
  have h63 := pow63 (A + B) hA63
  obtain ⟨h, W, hh, hW, hW2, hcm⟩ := cookM_nat wd A B a b t n hn
  obtain ⟨h', W', hh', hW', -, hcm'⟩ := cookM_nat wd A B a b t (packV A B c G) (by omega)
  obtain rfl : h' = h := by have := hh'.symm.trans hh; omega
  obtain rfl : W' = W := by have := hW'.symm.trans hW; omega
  obtain ⟨W'', hW'', -, hnar⟩ := narrow_iff wd A B n hn
  obtain rfl : W'' = W' := by have := hW''.symm.trans hW; omega
  have hAW : A + B ≤ W'' := by
    unfold layW at hW
    rw [hl, if_pos rfl] at hW
    cases wd
    · simp at hAB hW
      omega
    · simp at hAB hW
      omega
  have hpw : 2 ^ (A + B) ≤ 2 ^ W'' := Nat.pow_le_pow_right (by omega) hAW
  have hmk : makeI wd A B a b t c G = ((hideV W'' h' (packV A B c G) : Nat) : Int) := by
    unfold makeI
    rw [hpk, if_pos rfl, packI_eq hpk, hcm']
  have hop : openOkC wd A B a b t n = (decide (n < 2 ^ W'') && decide (hideV W'' h' n < 2 ^ (A + B))) := by
    unfold openOkC unpOk
    rw [hnar, hcm, hl, Bool.true_and, Int.toNat_natCast, Int.toNat_natCast, Int.toNat_natCast]
  rw [hmk, hop, Bool.and_eq_true, decide_eq_true_eq, decide_eq_true_eq]
  unfold openSl openGn
  rw [hnar, hcm, Int.toNat_natCast]
  have hU : hideV W'' h' n < 2 ^ (A + B) → unpS wd A B (hideV W'' h' n) = ((hideV W'' h' n % 2 ^ A : Nat) : Int) ∧ unpG wd A B (hideV W'' h' n) = ((hideV W'' h' n / 2 ^ A : Nat) : Int) := fun e => unp_yes (by
    unfold unpOk
    rw [hl, Bool.true_and, decide_eq_true_eq, Int.toNat_natCast, Int.toNat_natCast]
    exact e)
  constructor
  · intro e
    have e1 : hideV W'' h' (packV A B c G) = n := by exact_mod_cast e
    have e2 : hideV W'' h' n = packV A B c G := by rw [← e1]; exact hide_hide W'' h' (by omega)
    have e3 : n < 2 ^ W'' := e1 ▸ hideV_lt _ _ _
    have hU2 := hU (by rw [e2]; exact hpl)
    refine ⟨⟨e3, by rw [e2]; exact hpl⟩, ?_, ?_⟩
    · rw [if_pos (by simpa using e3), hU2.1, e2, unpack_slot hc]
    · rw [if_pos (by simpa using e3), hU2.2, e2, unpack_gen hc]
  · rintro ⟨⟨e1, e2⟩, e3, e4⟩
    obtain ⟨u1, u2⟩ := hU e2
    rw [if_pos (by simpa using e1), u1] at e3
    rw [if_pos (by simpa using e1), u2] at e4
    have e5 : hideV W'' h' n % 2 ^ A = c := by exact_mod_cast e3
    have e6 : hideV W'' h' n / 2 ^ A = G % 2 ^ B := by exact_mod_cast e4
    have e7 : packV A B c G = hideV W'' h' n := by
      unfold packV
      rw [← e5, ← e6]
      exact Nat.div_add_mod' _ _
    rw [e7, hide_hide _ _ e1]
theorem open_slot {wd : Bool} {sl gn a b : Int} {t : Tup} {n : Nat} (h : openOkC wd sl gn a b t n = true) : layOk wd sl gn = true ∧ ∃ c : Nat, openSl wd sl gn a b t n = c ∧ c < 2 ^ sl.toNat := by
  unfold openOkC at h
  rw [Bool.and_eq_true] at h
  have hl : layOk wd sl gn = true := by
    have := h.2
    unfold unpOk at this
    rw [Bool.and_eq_true] at this
    exact this.1
  refine ⟨hl, ?_⟩
  obtain ⟨A, B, rfl, rfl, -, -⟩ := layOk_nat hl
  refine ⟨(cookM wd A B a b t n).toNat % 2 ^ A, ?_, ?_⟩
  · unfold openSl
    rw [if_pos h.1, (unp_yes h.2).1]
  · rw [Int.toNat_natCast]
    exact Nat.mod_lt _ (Nat.pow_pos (by omega))
/-- An entry's cookie. -/
def ckOf (r : TRule) (x : Slt) : Int := makeI r.wd r.sl r.gn r.ka r.kb x.t x.sl x.gen
theorem makeI_rng (wd : Bool) (sl gn a b : Int) (t : Tup) (c : Int) {gen : Int} (hg : 0 ≤ gen ∧ gen < 18446744073709551616) : ∃ n : Nat, makeI wd sl gn a b t c gen = n ∧ n < 18446744073709551616 := by
  unfold makeI
  cases hp : packOk wd sl gn c
  · exact ⟨0, rfl, by omega⟩
  · obtain ⟨A, B, C, rfl, rfl, rfl, -, hAB, hC⟩ := packOk_nat hp
    obtain ⟨G, rfl⟩ : ∃ G : Nat, gen = G := ⟨gen.toNat, by omega⟩
    have hpl := packV_lt (gn := B) (gen := G) hC
    have h63 := pow63 (A + B) (by split at hAB <;> omega)
    rw [if_pos rfl, packI_eq hp]
    obtain ⟨h, W, -, -, hW2, hcm⟩ := cookM_nat wd A B a b t (packV A B C G) (by omega)
    exact ⟨_, hcm, Nat.lt_of_lt_of_le (hideV_lt _ _ _) (pow64' W hW2)⟩
section
variable {r : TRule} {n k : Nat} {s : TSt} {t : Tup}
theorem ruleOk_lay (h : ruleOk r = true) : layOk r.wd r.sl r.gn = true := by
  unfold ruleOk at h
  simp only [Bool.and_eq_true] at h
  exact h.1.1.1
/-- Who is found by a cookie. -/
theorem findC_iff (hr : ruleOk r = true) (hn : n = 2 ^ r.sl.toNat) (hi : TI n s) (hk : k < 18446744073709551616) :
    findOkC r n s t k = true ↔ ∃ c : Nat, c < n ∧ openSl r.wd r.sl r.gn r.ka r.kb t k = c ∧ (s.E c).used = true ∧ (s.E c).t = t ∧ ckOf r (s.E c) = k := by
  have hl := ruleOk_lay hr
  obtain ⟨A, B, hA, hB, -, hAB⟩ := layOk_nat hl
  have h63 : B ≤ 63 := by split at hAB <;> omega
  have hmask : ∀ x : Int, 0 ≤ x → x < 18446744073709551616 → bits BinOp.and IntKind.u64 x (maskI r.gn) = ((x.toNat % 2 ^ r.gn.toNat : Nat) : Int) := fun x h1 h2 => by
    obtain ⟨X, rfl⟩ : ∃ X : Nat, x = X := ⟨x.toNat, by omega⟩
    rw [hB, Int.toNat_natCast, Int.toNat_natCast]
    exact and_maskI X B (by omega) (by omega)
  unfold findOkC findOk
  simp only [Bool.and_eq_true, decide_eq_true_eq, beq_iff_eq, closeOk_iff, tupB_iff]
  constructor
  · rintro ⟨ho, ⟨c, hc, hcn, hu⟩, -, ht, hb⟩
    rw [hc, Int.toNat_natCast] at ht hb
    have hgr := hi.gr c hcn
    rw [hmask _ hgr.1 hgr.2] at hb
    refine ⟨c, hcn, hc, hu, ht, ?_⟩
    unfold ckOf
    rw [ht, hi.sl c hcn]
    exact (cook_iff hl (hn ▸ hcn) hgr hk).2 ⟨ho, hc, hb.symm⟩
  · rintro ⟨c, hcn, hc, hu, ht, hck⟩
    have hgr := hi.gr c hcn
    unfold ckOf at hck
    rw [ht, hi.sl c hcn] at hck
    obtain ⟨h1, h2, h3⟩ := (cook_iff hl (hn ▸ hcn) hgr hk).1 hck
    refine ⟨h1, ⟨c, h2, hcn, hu⟩, by omega, ?_, ?_⟩
    · rw [h2, Int.toNat_natCast]
      exact ht
    · rw [h2, Int.toNat_natCast, hmask _ hgr.1 hgr.2, h3]
theorem findC_at (hr : ruleOk r = true) (hn : n = 2 ^ r.sl.toNat) (hi : TI n s) (hk : k < 18446744073709551616) {c : Nat} (hc : c < n) (hu : (s.E c).used = true) (hck : ckOf r (s.E c) = k) : findOkC r n s (s.E c).t k = true ∧ findVC r n s (s.E c).t k = s.E c := by
  have hck2 := hck
  unfold ckOf at hck2
  rw [hi.sl c hc] at hck2
  obtain ⟨h1, h2, h3⟩ := (cook_iff (ruleOk_lay hr) (hn ▸ hc) (hi.gr c hc) hk).1 hck2
  have hf : findOkC r n s (s.E c).t k = true := (findC_iff hr hn hi hk).2 ⟨c, hc, h2, hu, rfl, hck⟩
  refine ⟨hf, ?_⟩
  unfold findVC findV
  unfold findOkC at hf
  rw [Bool.and_eq_true] at hf
  rw [if_pos h1, if_pos hf.2, h2, Int.toNat_natCast]
/-- Who is found is of this tuple, and has this cookie. -/
theorem findC_of (hr : ruleOk r = true) (hn : n = 2 ^ r.sl.toNat) (hi : TI n s) (hk : k < 18446744073709551616) (h : findOkC r n s t k = true) : ∃ c : Nat, c < n ∧ (s.E c).used = true ∧ (s.E c).t = t ∧ ckOf r (s.E c) = k ∧ findVC r n s t k = s.E c := by
  obtain ⟨c, hc, -, hu, ht, hck⟩ := (findC_iff hr hn hi hk).1 h
  subst ht
  exact ⟨c, hc, hu, rfl, hck, (findC_at hr hn hi hk hc hu hck).2⟩
theorem findSC_eq (s : TSt) (t : Tup) (k : Int) : (findSC r n s t k).E = s.E ∧ (findSC r n s t k).L = s.L ∧ (findSC r n s t k).M = s.M ∧ (findSC r n s t k).now = s.now := by
  unfold findSC lookS
  split
  · split <;> exact ⟨rfl, rfl, rfl, rfl⟩
  · exact ⟨rfl, rfl, rfl, rfl⟩
theorem touchOkC_eq (hi : TI n s) (hr : ruleOk r = true) (hn : n = 2 ^ r.sl.toNat) (hk : k < 18446744073709551616) : touchOkC r n s t k = findOkC r n s t k := by
  unfold touchOkC
  cases hf : findOkC r n s t k
  · rfl
  · rw [Bool.true_and]
    obtain ⟨c, hc, hu, -, -, hv⟩ := findC_of hr hn hi hk hf
    rw [hv, hi.sl c hc]
    refine closeOk_iff.2 ⟨c, rfl, hc, ?_⟩
    rw [(findSC_eq s t k).1]
    exact hu
/-- Who was opened is found. -/
theorem open_found (hr : ruleOk r = true) (hn : n = 2 ^ r.sl.toNat) (hi : TI n s) (t : Tup) (bk fl : Int) (h : openE s t bk fl = 0) :
    ∃ k c : Nat, openCk r s t bk fl = k ∧ k < 18446744073709551616 ∧ findOkC r n (openS r.cfg n s t bk fl) t k = true ∧ findVC r n (openS r.cfg n s t bk fl) t k = openV r.cfg s t bk fl ∧ c < n ∧ (s.E c).used = false ∧ (openS r.cfg n s t bk fl).E = updE s.E c (openV r.cfg s t bk fl) ∧ (openV r.cfg s t bk fl).t = t ∧ (openV r.cfg s t bk fl).bk = bk ∧ (openV r.cfg s t bk fl).sl = c ∧ (openV r.cfg s t bk fl).gen = (s.E c).gen ∧ (openV r.cfg s t bk fl).used = true := by
  cases ho : openOk t bk fl
  · unfold openE at h
    rw [ho] at h
    cases h
  · cases hL : s.L with
    | nil =>
      unfold openE at h
      rw [ho, hL] at h
      cases h
    | cons i l =>
      have hrng := hi.rng i (by rw [hL]; exact List.mem_cons_self)
      obtain ⟨c, rfl⟩ : ∃ c : Nat, i = (c : Int) := ⟨i.toNat, by omega⟩
      have hc : c < n := by omega
      have hnu : (s.E c).used = false := by
        cases hu : (s.E c).used
        · rfl
        · exact absurd (by rw [hL]; exact List.mem_cons_self) ((hi.used c hc).1 hu)
      have hv := openV_yes (c := r.cfg) ho hL
      have hs := openS_yes (c := r.cfg) (n := n) ho hL
      have hE : (openS r.cfg n s t bk fl).E = updE s.E c (openV r.cfg s t bk fl) := by rw [hs, Int.toNat_natCast]
      have hEc : (openS r.cfg n s t bk fl).E c = openV r.cfg s t bk fl := by rw [hE, updE_self]
      have hi' : TI n (openS r.cfg n s t bk fl) := hi.open t bk fl
      rw [Int.toNat_natCast] at hv
      have ht : (openV r.cfg s t bk fl).t = t := by rw [hv]; rfl
      have hu : (openV r.cfg s t bk fl).used = true := by rw [hv]; rfl
      have hg : (openV r.cfg s t bk fl).gen = (s.E c).gen := by rw [hv]; rfl
      have hsl : (openV r.cfg s t bk fl).sl = c := by rw [← hEc]; exact hi'.sl c hc
      have hgr := hi.gr c hc
      rw [← hg] at hgr
      have hck : openCk r s t bk fl = ckOf r (openV r.cfg s t bk fl) := by unfold openCk; rw [if_pos h]; rfl
      obtain ⟨k, hk, hk2⟩ := makeI_rng r.wd r.sl r.gn r.ka r.kb (openV r.cfg s t bk fl).t (openV r.cfg s t bk fl).sl hgr
      have hck2 : openCk r s t bk fl = k := hck.trans hk
      have hF := findC_at hr hn hi' hk2 (c := c) hc (by rw [hEc]; exact hu) (by rw [hEc]; exact hk)
      rw [hEc, ht] at hF
      exact ⟨k, c, hck2, hk2, hF.1, hF.2, hc, hnu, hE, ht, by rw [hv]; rfl, hsl, hg, hu⟩
theorem open_no {t : Tup} {bk fl : Int} (h : openE s t bk fl ≠ 0) : openS r.cfg n s t bk fl = s := by
  cases ho : openOk t bk fl
  · exact openS_no ho
  · cases hL : s.L with
    | nil => exact openS_full hL
    | cons i l =>
      unfold openE at h
      rw [ho, hL] at h
      exact absurd rfl h
end
end Go.Proofs.YtbmmklgkbbbopaaGreat

namespace Go.Proofs.YtbmmklgkbbbopaaGreat
open Go Go.RowKit Go.Deep Go.Maps Go.ChangeMaps

def awR : TRule := ⟨false, 1, 3, 0, 0, 2, 1, 1, 1, 5, 1⟩
def awSt : TSt := sT0 2
theorem aw20_facts : ruleOk awR = true ∧ openE awSt awT 1 0 = 0 := by
  refine ⟨?_, ?_⟩ <;> rfl
theorem ent_self (x : Slt) (w : World) : (binOp .eql 52 x.val x.val).run Tryz.prog w = .ok (.bool true) w := by
  rw [ent_eql]
  have : entB x x = true := by
    unfold entB
    simp [tupB_iff]
  rw [this]
set_option maxRecDepth 100000 in
set_option maxHeartbeats 16000000 in
theorem awake20 (w : World) : Calls Tryz.prog 8 #[] w fun e w' => e = .returned (.bool true) ∧ Below w.heap.size w w' := by
  obtain ⟨hR, e1⟩ := aw20_facts
  have P0 := Blk.new w 47 awT.cells.toArray
  have hb0 : Below w.heap.size w (w.alloc (.cells awT.cells.toArray 47)) := below_alloc (Below.refl _ _) _
  go_enter Tryz.func8, Tryz.ntmps8
  go_upto_region 2 with fail
  change Code.wp _ _ _ _ (w.alloc (.cells awT.cells.toArray 47))
  obtain ⟨p, hp⟩ : ∃ p, w.heap.size = p := ⟨_, rfl⟩
  have hpw : w.heap.size ≤ p := Nat.le_of_eq hp
  rw [hp] at P0
  generalize w.alloc (.cells awT.cells.toArray 47) = w1 at *
  try rw [hp]
  have NW : Calls Tryz.prog 9 #[.agg #[.bool false, .int .i64 1, .int .i64 3, .int .u64 0, .int .u64 0, .int .i64 2, .int .i64 1, .int .i64 1, .int .i64 1, .int .i64 5, .int .i64 1]] w1 _ := tabsn_new (w0 := w) (w := w1) (r := awR) (K := fun b => b = p) hR hb0 (fun b hb => by have := P0.lt; omega)
  replace NW := Lib.hid NW
  go_upto_region 3 with (go_at_call 9; (with_reducible refine NW.out.mono ?_); rintro e w2 ⟨g, rfl, hT0, hb1⟩)
  have hT : TabsN w w2 g awR 2 2 (fun _ => awSt) (fun b => b = p) := hT0
  have P := P0.call hb1
  clear P0 hb1 NW hT0
  have hpl := P.lt
  have hK : ∀ b, (b = p) → b < w2.heap.size := fun b hb => by omega
  have q0 : w2.cell? ⟨p, 0, none⟩ = some (.int .i64 17) := P.cell 0
  have q1 : w2.cell? ⟨p, 1, none⟩ = some (.bool false) := P.cell 1
  have q2 : w2.cell? ⟨p, 2, none⟩ = some (.int .u64 0) := P.cell 2
  have q3 : w2.cell? ⟨p, 3, none⟩ = some (.int .u64 0) := P.cell 3
  have q4 : w2.cell? ⟨p, 4, none⟩ = some (.bool false) := P.cell 4
  have q5 : w2.cell? ⟨p, 5, none⟩ = some (.int .u64 0) := P.cell 5
  have q6 : w2.cell? ⟨p, 6, none⟩ = some (.int .u64 0) := P.cell 6
  have q7 : w2.cell? ⟨p, 7, none⟩ = some (.int .i64 0) := P.cell 7
  have q8 : w2.cell? ⟨p, 8, none⟩ = some (.int .i64 0) := P.cell 8
  obtain ⟨i, hi⟩ : ∃ i, pIx awR awT = i := ⟨_, rfl⟩
  have hrng := hT.rng
  have hil : pIx awR awT < 2 := (pIx_eq awR awT (p := 2) rfl (by omega) (by omega)).2
  obtain ⟨ck, c, hck, hck2, hfo, hfv, hc, -, hE, -, -, -, hgn, -⟩ := open_found (n := 2) hR rfl (hT.ti _ hil) awT 1 0 e1
  have OP : Calls Tryz.prog 14 #[.pointer (some ⟨g, 0, none⟩), .agg #[.int .i64 17, .bool false, .int .u64 0, .int .u64 0, .bool false, .int .u64 0, .int .u64 0, .int .i64 0, .int .i64 0], .int .i64 1, .int .i64 0] w2 _ := tabsn_open hT hK awT 1 0
  try dsimp only at OP
  rw [e1, hck] at OP
  obtain ⟨s1, hs1⟩ : ∃ s, openS awR.cfg 2 awSt awT 1 0 = s := ⟨_, rfl⟩
  obtain ⟨x2, hx2⟩ : ∃ x, openV awR.cfg awSt awT 1 0 = x := ⟨_, rfl⟩
  rw [hs1, hx2] at OP
  rw [hs1] at hfo hfv
  rw [hx2] at hfv
  replace OP := Lib.hid OP
  replace hT := Lib.hid hT
  go_upto_region 4 with (go_at_call 14; (with_reducible refine OP.out.mono ?_); rintro e v2 ⟨rfl, hT2, hc2⟩)
  change Code.wp _ _ _ _ (v2.alloc (.cells x2.entA 52))
  have P2 := P.chg hc2 (fun e => e.2 (by simp))
  have B := Blk.new v2 52 x2.entA
  have hal := below_alloc (Below.refl v2.heap.size v2) (.cells x2.entA 52)
  have P3 := P2.call hal
  have hT3 := hT2.alloc (.cells x2.entA 52)
  obtain ⟨r2, hr2⟩ : ∃ r, v2.heap.size = r := ⟨_, rfl⟩
  rw [hr2] at B hT3
  try rw [hr2]
  generalize v2.alloc (.cells x2.entA 52) = w3 at *
  clear OP hT hT2 hc2 P2 P hK hal hpl hx2 hs1 q0 q1 q2 q3 q4 q5 q6 q7 q8
  rename Blk w3 p _ _ => P
  have hT := hT3
  clear hT3
  have hpl := P.lt
  have hlr2 := B.lt
  have hK : ∀ b, (b = p ∨ b = r2) → b < w3.heap.size := fun b hb => by omega
  have q0 : w3.cell? ⟨p, 0, none⟩ = some (.int .i64 17) := P.cell 0
  have q1 : w3.cell? ⟨p, 1, none⟩ = some (.bool false) := P.cell 1
  have q2 : w3.cell? ⟨p, 2, none⟩ = some (.int .u64 0) := P.cell 2
  have q3 : w3.cell? ⟨p, 3, none⟩ = some (.int .u64 0) := P.cell 3
  have q4 : w3.cell? ⟨p, 4, none⟩ = some (.bool false) := P.cell 4
  have q5 : w3.cell? ⟨p, 5, none⟩ = some (.int .u64 0) := P.cell 5
  have q6 : w3.cell? ⟨p, 6, none⟩ = some (.int .u64 0) := P.cell 6
  have q7 : w3.cell? ⟨p, 7, none⟩ = some (.int .i64 0) := P.cell 7
  have q8 : w3.cell? ⟨p, 8, none⟩ = some (.int .i64 0) := P.cell 8
  have FD : Calls Tryz.prog 16 #[.pointer (some ⟨g, 0, none⟩), .agg #[.int .i64 17, .bool false, .int .u64 0, .int .u64 0, .bool false, .int .u64 0, .int .u64 0, .int .i64 0, .int .i64 0], .int .u64 (ck : Int)] w3 _ := tabsn_find hT hK awT ck hck2
  rw [updS_self, hfo, hfv] at FD
  replace FD := Lib.hid FD
  replace hT := Lib.hid hT
  go_upto_region 5 with (go_at_call 16; (with_reducible refine FD.out.mono ?_); rintro e v3 ⟨rfl, hT2, hc2⟩)
  change Code.wp _ _ _ _ (v3.alloc (.cells x2.entA 52))
  have P2 := P.chg hc2 (fun e => e.2 (by simp))
  have B2 := B.chg hc2 (fun e => e.2 (by simp))
  have C := Blk.new v3 52 x2.entA
  have hal := below_alloc (Below.refl v3.heap.size v3) (.cells x2.entA 52)
  have P3 := P2.call hal
  have B3 := B2.call hal
  have hbT := (hT2.call0 hal).below
  obtain ⟨r3, hr3⟩ : ∃ r, v3.heap.size = r := ⟨_, rfl⟩
  rw [hr3] at C
  try rw [hr3]
  generalize v3.alloc (.cells x2.entA 52) = w4 at *
  clear FD hT hT2 hc2 P2 P hK hal hpl B2 B hlr2 hfo hfv q0 q1 q2 q3 q4 q5 q6 q7 q8
  rename Blk w4 p _ _ => P
  have Z := Blk.new w4 75 tabsZ
  have hb6 := below_alloc (Below.refl w4.heap.size w4) (.cells tabsZ 75)
  have P7 := P.call hb6
  go_upto_region 7 with fail
  change Code.wp _ _ _ _ (w4.alloc (.cells tabsZ 75))
  obtain ⟨z, hz⟩ : ∃ z, w4.heap.size = z := ⟨_, rfl⟩
  rw [hz] at Z
  try rw [hz]
  generalize w4.alloc (.cells tabsZ 75) = w7 at *
  clear P
  rename Blk w7 p _ _ => P
  have q0 : w7.cell? ⟨p, 0, none⟩ = some (.int .i64 17) := P.cell 0
  have q1 : w7.cell? ⟨p, 1, none⟩ = some (.bool false) := P.cell 1
  have q2 : w7.cell? ⟨p, 2, none⟩ = some (.int .u64 0) := P.cell 2
  have q3 : w7.cell? ⟨p, 3, none⟩ = some (.int .u64 0) := P.cell 3
  have q4 : w7.cell? ⟨p, 4, none⟩ = some (.bool false) := P.cell 4
  have q5 : w7.cell? ⟨p, 5, none⟩ = some (.int .u64 0) := P.cell 5
  have q6 : w7.cell? ⟨p, 6, none⟩ = some (.int .u64 0) := P.cell 6
  have q7 : w7.cell? ⟨p, 7, none⟩ = some (.int .i64 0) := P.cell 7
  have q8 : w7.cell? ⟨p, 8, none⟩ = some (.int .i64 0) := P.cell 8
  have ON : Calls Tryz.prog 14 #[.pointer none, .agg #[.int .i64 17, .bool false, .int .u64 0, .int .u64 0, .bool false, .int .u64 0, .int .u64 0, .int .i64 0, .int .i64 0], .int .i64 1, .int .i64 0] w7 _ := tabs_open_nil awT 1 0 w7
  replace ON := Lib.hid ON
  go_upto_region 8 with (go_at_call 14; (with_reducible refine ON.out.mono ?_); rintro e w8 ⟨rfl, hb7⟩)
  change Code.wp _ _ _ _ (w8.alloc (.cells slt0.entA 52))
  have hb8 := below_alloc hb7 (.cells slt0.entA 52)
  have P9 := P.call hb8
  have Z9 := Z.call hb8
  generalize w8.alloc (.cells slt0.entA 52) = w9 at *
  clear ON q0 q1 q2 q3 q4 q5 q6 q7 q8 P Z hb7
  have GP := Lib.hid (tabs_go_plain Z9 1)
  go_upto_region 9 with (go_at_call 20; (with_reducible refine GP.out.mono ?_); rintro e w10 ⟨rfl, hb9⟩)
  have P := P9.call hb9
  have Z10 := Z9.call hb9
  clear GP P9 Z9
  have q0 : w10.cell? ⟨p, 0, none⟩ = some (.int .i64 17) := P.cell 0
  have q1 : w10.cell? ⟨p, 1, none⟩ = some (.bool false) := P.cell 1
  have q2 : w10.cell? ⟨p, 2, none⟩ = some (.int .u64 0) := P.cell 2
  have q3 : w10.cell? ⟨p, 3, none⟩ = some (.int .u64 0) := P.cell 3
  have q4 : w10.cell? ⟨p, 4, none⟩ = some (.bool false) := P.cell 4
  have q5 : w10.cell? ⟨p, 5, none⟩ = some (.int .u64 0) := P.cell 5
  have q6 : w10.cell? ⟨p, 6, none⟩ = some (.int .u64 0) := P.cell 6
  have q7 : w10.cell? ⟨p, 7, none⟩ = some (.int .i64 0) := P.cell 7
  have q8 : w10.cell? ⟨p, 8, none⟩ = some (.int .i64 0) := P.cell 8
  have FN : Calls Tryz.prog 16 #[.pointer none, .agg #[.int .i64 17, .bool false, .int .u64 0, .int .u64 0, .bool false, .int .u64 0, .int .u64 0, .int .i64 0, .int .i64 0], .int .u64 0] w10 _ := tabs_find_no (.pointer none) awT 0 w10 fun W _ => tabs_given_nil W
  replace FN := Lib.hid FN
  go_upto_region 10 with (go_at_call 16; (with_reducible refine FN.out.mono ?_); rintro e w11 ⟨rfl, hb10⟩)
  change Code.wp _ _ _ _ (w11.alloc (.cells slt0.entA 52))
  have hb11 := below_alloc hb10 (.cells slt0.entA 52)
  have P11 := P.call hb11
  have Z11 := Z10.call hb11
  generalize w11.alloc (.cells slt0.entA 52) = w12 at *
  clear FN q0 q1 q2 q3 q4 q5 q6 q7 q8 P Z10 hb10
  rename Blk w12 p _ _ => P
  have q0 : w12.cell? ⟨p, 0, none⟩ = some (.int .i64 17) := P.cell 0
  have q1 : w12.cell? ⟨p, 1, none⟩ = some (.bool false) := P.cell 1
  have q2 : w12.cell? ⟨p, 2, none⟩ = some (.int .u64 0) := P.cell 2
  have q3 : w12.cell? ⟨p, 3, none⟩ = some (.int .u64 0) := P.cell 3
  have q4 : w12.cell? ⟨p, 4, none⟩ = some (.bool false) := P.cell 4
  have q5 : w12.cell? ⟨p, 5, none⟩ = some (.int .u64 0) := P.cell 5
  have q6 : w12.cell? ⟨p, 6, none⟩ = some (.int .u64 0) := P.cell 6
  have q7 : w12.cell? ⟨p, 7, none⟩ = some (.int .i64 0) := P.cell 7
  have q8 : w12.cell? ⟨p, 8, none⟩ = some (.int .i64 0) := P.cell 8
  have TN : Calls Tryz.prog 18 #[.pointer (some ⟨z, 0, none⟩), .agg #[.int .i64 17, .bool false, .int .u64 0, .int .u64 0, .bool false, .int .u64 0, .int .u64 0, .int .i64 0, .int .i64 0], .int .u64 0, .int .i64 0] w12 _ := tabs_touch_no (.pointer (some ⟨z, 0, none⟩)) awT 0 0 w12 fun W hb => tabs_given_plain (Z11.call hb)
  replace TN := Lib.hid TN
  go_upto_region 11 with (go_at_call 18; (with_reducible refine TN.out.mono ?_); rintro e w13 ⟨rfl, hb12⟩)
  change Code.wp _ _ _ _ (w13.alloc (.cells slt0.entA 52))
  have hb13 := below_alloc hb12 (.cells slt0.entA 52)
  have Z13 := Z11.call hb13
  have hb4 : Below w4.heap.size w4 (w13.alloc (.cells slt0.entA 52)) := below_chain hb13 (below_chain hb11 (below_chain hb9 (below_chain hb8 hb6)))
  have HE := Lib.hid fun W (hb : Below w4.heap.size w4 W) => (show EntAt r2 x2 W ∧ EntAt r3 x2 W from ⟨EntAt.of (B3.call hb), EntAt.of (C.call hb)⟩)
  generalize w13.alloc (.cells slt0.entA 52) = w14 at *
  clear TN q0 q1 q2 q3 q4 q5 q6 q7 q8 P Z11 hb12 hb13 hb11 hb9 hb8 hb6 B3 C
  have hbF := below_chain hb4 hbT
  have hEQ := fun W => ent_self x2 W
  obtain ⟨⟨a0, a1, a2, a3, a4, a5, a6, a7, a8, a9, a10, a11, a12, a13⟩, b0, b1, b2, b3, b4, b5, b6, b7, b8, b9, b10, b11, b12, b13⟩ := HE.out w14 hb4
  have FP := Lib.hid fun W (hb : Below w14.heap.size w14 W) => tabs_free_plain (Z13.call hb) 0
  have DP := Lib.hid fun W (hb : Below w14.heap.size w14 W) => tabs_drop_plain (Z13.call hb) 1
  have LN := Lib.hid fun W => tabs_looks_nil W
  have VN := Lib.hid fun W => tabs_live_nil W
  have CN := Lib.hid fun W => tabs_cookie_nil x2 W
  clear Z13
  go_wp2_with (first
    | (go_at_call 27; (with_reducible refine (LN.out _).mono ?_); rintro e v5 ⟨rfl, hc5⟩)
    | (go_at_call 29; (with_reducible refine (FP.out _ hc5).mono ?_); rintro e v6 ⟨rfl, hc6⟩)
    | (go_at_call 26; (with_reducible refine (VN.out _).mono ?_); rintro e v7 ⟨rfl, hc7⟩)
    | (go_at_call 23; (with_reducible refine (DP.out _ (below_chain hc7 (below_chain hc6 hc5))).mono ?_); rintro e v8 ⟨rfl, hc8⟩; clear a0 a1 a2 a3 a4 a5 a6 a7 a8 a9 a10 a11 a12 a13 b0 b1 b2 b3 b4 b5 b6 b7 b8 b9 b10 b11 b12 b13; obtain ⟨⟨a0, a1, a2, a3, a4, a5, a6, a7, a8, a9, a10, a11, a12, a13⟩, -⟩ := HE.out v8 (below_chain hc8 (below_chain hc7 (below_chain hc6 (below_chain hc5 hb4)))))
    | (go_at_call 31; (with_reducible refine (CN.out _).mono ?_); rintro e v9 ⟨rfl, hc9⟩))
  go_ret
  exact ⟨rfl, below_chain hc9 (below_chain hc8 (below_chain hc7 (below_chain hc6 (below_chain hc5 hbF))))⟩
end Go.Proofs.YtbmmklgkbbbopaaGreat
