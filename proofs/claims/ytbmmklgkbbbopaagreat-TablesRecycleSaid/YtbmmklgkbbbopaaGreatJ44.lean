/- tables: what stays true of tables, in plain words; all entries. tables: the law's helpers, and the document's Right and Small. tables: the law TablesFind, called: where it has nothing to do. -/
import Derived.Test.YtbmmklgkbbbopaaGreatJ43
import Derived.Test.YtbmmklgkbbbopaaGreatJ34
import Derived.Test.YtbmmklgkbbbopaaGreatJ20
import Derived.Test.YtbmmklgkbbbopaaGreatJ3
import Derived.Deep.CutRange
import Derived.Deep.CutBlock
import Derived.Deep.LoopGhost
namespace Go.Proofs.YtbmmklgkbbbopaaGreat
open Go Go.RowKit Go.Deep Go.Maps Go.ChangeMaps

/-- Who is used behind a step was so before, as the same connection. -/
def KeepE (n : Nat) (s s' : TSt) : Prop := ∀ k : Nat, k < n → (s'.E k).used = true → (s.E k).used = true ∧ (s'.E k).t = (s.E k).t ∧ (s'.E k).bk = (s.E k).bk
section
variable {n k : Nat} {s s' s2 : TSt} {r : TRule} {t : Tup}
theorem KeepE.of_eq (h : s'.E = s.E) : KeepE n s s' := fun k _ hu => by
  rw [h] at hu ⊢
  exact ⟨hu, rfl, rfl⟩
theorem KeepE.trans (h : KeepE n s s') (h2 : KeepE n s' s2) : KeepE n s s2 := fun k hk hu => by
  obtain ⟨a1, a2, a3⟩ := h2 k hk hu
  obtain ⟨b1, b2, b3⟩ := h k hk a1
  exact ⟨b1, a2.trans b2, a3.trans b3⟩
theorem keepE_clr (P : Nat → Prop) [DecidablePred P] (hE : ∀ k : Nat, k < n → s'.E k = if P k then clrS (s.E k) else s.E k) : KeepE n s s' := fun k hk hu => by
  rw [hE k hk] at hu ⊢
  by_cases hp : P k
  · rw [if_pos hp] at hu
    cases hu
  · rw [if_neg hp] at hu ⊢
    exact ⟨hu, rfl, rfl⟩
theorem keepE_touch {c : TCfg} (i fl : Int) : KeepE n s (touchS c n s i fl) := by
  cases hc : closeOk n s i
  · rw [touchS_no hc]
    exact KeepE.of_eq (lookS_E _ _ _)
  · obtain ⟨k, rfl, hk, hu⟩ := closeOk_iff.1 hc
    by_cases h4 : nextS (s.E ((k : Int)).toNat).st fl = 4
    · rw [touchS_gone hc h4, Int.toNat_natCast]
      intro j hj hu2
      have e : (goS n (lookS n k s) k).E j = updE (lookS n k s).E k (clrS ((lookS n k s).E k)) j := rfl
      rw [e, lookS_E] at hu2 ⊢
      by_cases e : j = k
      · subst e
        rw [updE_self] at hu2
        cases hu2
      · rw [updE_ne _ _ e] at hu2 ⊢
        exact ⟨hu2, rfl, rfl⟩
    · rw [touchS_stay hc h4]
      intro j hj hu2
      have hv := touchV_stay (c := c) hc h4
      rw [Int.toNat_natCast] at hv
      by_cases e : j = k
      · subst e
        refine ⟨hu, ?_, ?_⟩
        · show (updE s.E _ (touchV c n s j fl) j).t = _
          rw [Int.toNat_natCast, updE_self, hv]
          rfl
        · show (updE s.E _ (touchV c n s j fl) j).bk = _
          rw [Int.toNat_natCast, updE_self, hv]
          rfl
      · have e3 : updE s.E ((k : Int)).toNat (touchV c n s k fl) j = s.E j := by rw [Int.toNat_natCast]; exact updE_ne _ _ e
        have e4 : (updE s.E ((k : Int)).toNat (touchV c n s k fl) j).used = true := hu2
        show _ ∧ (updE s.E ((k : Int)).toNat (touchV c n s k fl) j).t = _ ∧ (updE s.E ((k : Int)).toNat (touchV c n s k fl) j).bk = _
        rw [e3] at e4 ⊢
        exact ⟨e4, rfl, rfl⟩
theorem keepE_find (k : Int) : KeepE n s (findSC r n s t k) := KeepE.of_eq (findSC_eq s t k).1
theorem keepE_touchSC (k fl : Int) : KeepE n s (touchSC r n s t k fl) := by
  unfold touchSC
  split
  · exact (keepE_find k).trans (keepE_touch _ _)
  · exact keepE_find k
theorem keepE_go (hi : TI n s) {G nw : Int} {S : List Int} (hS : GoS G s.now nw s.M S) : KeepE n s (goTab n s nw S) :=
  keepE_clr (fun k => (k : Int) ∈ S) fun k _ => (hi.go hS).2.1 k
theorem keepE_drop (hi : TI n s) (bk : Int) : KeepE n s (dropSC n bk s) :=
  keepE_clr (fun k => ((s.E k).used && (s.E k).bk == bk) = true) fun k hk => (hi.drop (fun x => x.bk == bk)).2.1 k hk
end
/-- What stays true of tables: b bounds how often a part was looked at. -/
structure LI (r : TRule) (p n : Nat) (S : Nat → TSt) (b : Int) : Prop where
  ti : ∀ i, i < p → TI n (S i)
  pt : ∀ i, i < p → ∀ k : Nat, k < n → ((S i).E k).used = true → pIx r ((S i).E k).t = i
  now : ∀ i, i < p → (S i).now = (S 0).now
  lk : ∀ i, i < p → 0 ≤ (S i).lk ∧ (S i).lk ≤ b
section
variable {r : TRule} {p n : Nat} {S S' : Nat → TSt} {b b' : Int} {t : Tup}
theorem LI.new (r : TRule) (p n : Nat) : LI r p n (fun _ => sT0 n) 0 :=
  ⟨fun _ _ => TI.new n, fun i hi k hk hu => (by cases hu), fun _ _ => rfl, fun _ _ => ⟨Int.le_refl _, Int.le_refl _⟩⟩
theorem LI.mono (h : LI r p n S b) (hb : b ≤ b') : LI r p n S b' := ⟨h.ti, h.pt, h.now, fun i hi => ⟨(h.lk i hi).1, by have := (h.lk i hi).2; omega⟩⟩
theorem LI.all (h : LI r p n S b) (hti : ∀ i, i < p → TI n (S' i)) (hk : ∀ i, i < p → KeepE n (S i) (S' i)) (hn : ∀ i, i < p → (S' i).now = (S' 0).now) (hl : ∀ i, i < p → (S' i).lk = (S i).lk) : LI r p n S' b :=
  ⟨hti, fun i hi k hkn hu => by
    obtain ⟨a1, a2, -⟩ := hk i hi k hkn hu
    rw [a2]
    exact h.pt i hi k hkn a1, hn, fun i hi => by rw [hl i hi]; exact h.lk i hi⟩
theorem LI.upd (h : LI r p n S b) {i : Nat} {s' : TSt} (hti : TI n s') (hk : KeepE n (S i) s') (hn : s'.now = (S i).now) (hl : i < p → 0 ≤ s'.lk ∧ s'.lk ≤ b') (hb : b ≤ b') : LI r p n (updS S i s') b' where
  ti := fun j hj => by
    by_cases e : j = i
    · subst e
      rw [updS_self]
      exact hti
    · rw [updS_ne _ _ e]
      exact h.ti j hj
  pt := fun j hj k hkn hu => by
    by_cases e : j = i
    · subst e
      rw [updS_self] at hu ⊢
      obtain ⟨a1, a2, -⟩ := hk k hkn hu
      rw [a2]
      exact h.pt j hj k hkn a1
    · rw [updS_ne _ _ e] at hu ⊢
      exact h.pt j hj k hkn hu
  now := fun j hj => by
    have e1 : ∀ j, j < p → (updS S i s' j).now = (S j).now := fun j _ => by
      by_cases e : j = i
      · subst e
        rw [updS_self, hn]
      · rw [updS_ne _ _ e]
    rw [e1 j hj, e1 0 (by omega)]
    exact h.now j hj
  lk := fun j hj => by
    by_cases e : j = i
    · subst e
      rw [updS_self]
      exact hl hj
    · rw [updS_ne _ _ e]
      have := h.lk j hj
      omega
theorem lookS_lk2 {s : TSt} (h : 0 ≤ s.lk ∧ s.lk ≤ 1000) (i : Int) : s.lk ≤ (lookS n i s).lk ∧ (lookS n i s).lk ≤ s.lk + 1 := by
  have := look_lk (n := n) h i
  omega
theorem findSC_lk {s : TSt} (h : 0 ≤ s.lk ∧ s.lk ≤ 1000) (t : Tup) (k : Int) : s.lk ≤ (findSC r n s t k).lk ∧ (findSC r n s t k).lk ≤ s.lk + 1 := by
  unfold findSC
  split
  · exact lookS_lk2 h _
  · omega
theorem touchSC_lk {s : TSt} (h : 0 ≤ s.lk ∧ s.lk ≤ 999) (t : Tup) (k fl : Int) : s.lk ≤ (touchSC r n s t k fl).lk ∧ (touchSC r n s t k fl).lk ≤ s.lk + 2 := by
  have h1 := findSC_lk (r := r) (n := n) (s := s) (by omega) t k
  unfold touchSC
  split
  · have := (stepR_touch (n := n) (c := r.cfg) (s := findSC r n s t k) (by omega) (findVC r n s t k).sl fl).2
    omega
  · omega
theorem touchS_now {c : TCfg} {s : TSt} (i fl : Int) : (touchS c n s i fl).now = s.now := by
  have e : ∀ s : TSt, (lookS n i s).now = s.now := fun s => by unfold lookS; split <;> rfl
  cases hc : closeOk n s i
  · rw [touchS_no hc]
    exact e s
  · by_cases h4 : nextS (s.E i.toNat).st fl = 4
    · rw [touchS_gone hc h4]
      exact e s
    · rw [touchS_stay hc h4]
theorem LI.find (h : LI r p n S b) (hb : b ≤ 999) (hp : pIx r t < p) (k : Int) : LI r p n (updS S (pIx r t) (findSC r n (S (pIx r t)) t k)) (b + 1) := by
  have hl := h.lk _ hp
  have := findSC_lk (r := r) (n := n) (s := S (pIx r t)) (by omega) t k
  exact h.upd (h.ti _ hp).findSC (keepE_find k) (findSC_eq _ t k).2.2.2 (fun _ => by omega) (by omega)
theorem LI.touch (h : LI r p n S b) (hb : b ≤ 999) (hp : pIx r t < p) (k fl : Int) : LI r p n (updS S (pIx r t) (touchSC r n (S (pIx r t)) t k fl)) (b + 2) := by
  have hl := h.lk _ hp
  have := touchSC_lk (r := r) (n := n) (s := S (pIx r t)) (by omega) t k fl
  refine h.upd (touchSC_ti (h.ti _ hp)) (keepE_touchSC k fl) ?_ (fun _ => by omega) (by omega)
  unfold touchSC
  split
  · rw [touchS_now]
    exact (findSC_eq _ t k).2.2.2
  · exact (findSC_eq _ t k).2.2.2
theorem LI.go (h : LI r p n S b) {nw : Int} {SS : Nat → List Int} (hS : ∀ i, i < p → GoS r.G (S i).now nw (S i).M (SS i)) : LI r p n (fun i => goTab n (S i) nw (SS i)) b :=
  h.all (fun i hi => ((h.ti i hi).go (hS i hi)).1) (fun i hi => keepE_go (h.ti i hi) (hS i hi)) (fun i hi => by
    rw [((h.ti i hi).go (hS i hi)).2.2.2.2.1, ((h.ti 0 (by omega)).go (hS 0 (by omega))).2.2.2.2.1, h.now i hi]) fun i hi => ((h.ti i hi).go (hS i hi)).2.2.2.2.2
theorem LI.drop (h : LI r p n S b) (bk : Int) : LI r p n (fun i => dropSC n bk (S i)) b :=
  h.all (fun i hi => ((h.ti i hi).drop _).1) (fun i hi => keepE_drop (h.ti i hi) bk) (fun i hi => by
    have e : ∀ i, i < p → (dropSC n bk (S i)).now = (S i).now := fun i hi => ((h.ti i hi).drop _).2.2.2.1
    rw [e i hi, e 0 (by omega)]
    exact h.now i hi) fun i hi => ((h.ti i hi).drop _).2.2.2.2
theorem LI.open (h : LI r p n S b) (hr : ruleOk r = true) (hn : n = 2 ^ r.sl.toNat) (hb : b ≤ 999) (hp : pIx r t < p) (bk fl : Int) : LI r p n (updS S (pIx r t) (openS r.cfg n (S (pIx r t)) t bk fl)) (b + 1) := by
  by_cases h0 : openE (S (pIx r t)) t bk fl = 0
  · have hl := h.lk _ hp
    have hR := (stepR_open (c := r.cfg) (h.ti _ hp) (by omega) t bk fl).2
    obtain ⟨k, c, -, -, -, -, hc, -, hE, ht, -, -, -, -⟩ := open_found hr hn (h.ti _ hp) t bk fl h0
    refine ⟨fun j hj => ?_, fun j hj k hkn hu => ?_, fun j hj => ?_, fun j hj => ?_⟩
    · by_cases e : j = pIx r t
      · rw [e, updS_self]
        exact (h.ti _ hp).open t bk fl
      · rw [updS_ne _ _ e]
        exact h.ti j hj
    · by_cases e : j = pIx r t
      · rw [e, updS_self, hE] at hu ⊢
        by_cases e2 : k = c
        · rw [e2, updE_self, ht]
        · rw [updE_ne _ _ e2] at hu ⊢
          exact h.pt _ hp k hkn hu
      · rw [updS_ne _ _ e] at hu ⊢
        exact h.pt j hj k hkn hu
    · have e0 : (openS r.cfg n (S (pIx r t)) t bk fl).now = (S (pIx r t)).now := by
        cases ho : openOk t bk fl
        · rw [openS_no ho]
        · cases hL : (S (pIx r t)).L with
          | nil => rw [openS_full hL]
          | cons i l => rw [openS_yes ho hL]
      have e1 : ∀ j, j < p → (updS S (pIx r t) (openS r.cfg n (S (pIx r t)) t bk fl) j).now = (S j).now := fun j _ => by
        by_cases e : j = pIx r t
        · rw [e, updS_self, e0]
        · rw [updS_ne _ _ e]
      rw [e1 j hj, e1 0 (by omega)]
      exact h.now j hj
    · by_cases e : j = pIx r t
      · rw [e, updS_self]
        omega
      · rw [updS_ne _ _ e]
        have := h.lk j hj
        omega
  · rw [open_no h0, updS_same]
    exact h.mono (by omega)
theorem mem_catF {α : Type} {f : Nat → List α} {x : α} : ∀ {p : Nat}, x ∈ catF f p ↔ ∃ i, i < p ∧ x ∈ f i
  | 0 => ⟨fun h => (by cases h), fun ⟨i, hi, _⟩ => by omega⟩
  | p + 1 => by
    rw [catF, List.mem_append, mem_catF (p := p)]
    constructor
    · rintro (⟨i, hi, h⟩ | h)
      · exact ⟨i, by omega, h⟩
      · exact ⟨p, by omega, h⟩
    · rintro ⟨i, hi, h⟩
      by_cases e : i = p
      · subst e
        exact .inr h
      · exact .inl ⟨i, by omega, h⟩
theorem catF_congr {α : Type} {f f' : Nat → List α} : ∀ {p : Nat}, (∀ i, i < p → f i = f' i) → catF f p = catF f' p
  | 0, _ => rfl
  | p + 1, h => by
    rw [catF, catF, catF_congr (p := p) fun i hi => h i (by omega), h p (by omega)]
theorem mem_entsL {x : Slt} : x ∈ entsL n p S ↔ ∃ i, i < p ∧ ∃ k : Nat, k < n ∧ ((S i).E k).used = true ∧ (S i).E k = x := by
  unfold entsL
  rw [mem_catF]
  exact exists_congr fun i => and_congr Iff.rfl mem_liveL
theorem entsL_upd {i : Nat} {s' : TSt} (h : s'.E = (S i).E) : entsL n p (updS S i s') = entsL n p S := by
  unfold entsL
  refine catF_congr fun j _ => ?_
  by_cases e : j = i
  · subst e
    rw [updS_self]
    unfold liveL
    rw [h]
  · rw [updS_ne _ _ e]
/-- Is there a live entry of a tuple, with this cookie? -/
def isB (r : TRule) (L : List Slt) (t : Tup) (k : Int) : Bool := L.any fun x => tupB x.t t && (ckOf r x == k)
theorem isB_find (h : LI r p n S b) (hr : ruleOk r = true) (hn : n = 2 ^ r.sl.toNat) (hp : pIx r t < p) {k : Nat} (hk : k < 18446744073709551616) : isB r (entsL n p S) t k = findOkC r n (S (pIx r t)) t k := by
  unfold isB
  rw [Bool.eq_iff_iff, List.any_eq_true]
  constructor
  · rintro ⟨x, hx, e⟩
    obtain ⟨i, hi, c, hc, hu, rfl⟩ := mem_entsL.1 hx
    rw [Bool.and_eq_true, tupB_iff, beq_iff_eq] at e
    obtain ⟨e1, e2⟩ := e
    have hi2 := h.pt i hi c hc hu
    rw [e1] at hi2
    subst hi2
    have := (findC_at hr hn (h.ti _ hi) hk hc hu e2).1
    rwa [e1] at this
  · intro hf
    obtain ⟨c, hc, hu, ht, hck, -⟩ := findC_of hr hn (h.ti _ hp) hk hf
    exact ⟨_, mem_entsL.2 ⟨_, hp, c, hc, hu, rfl⟩, by rw [Bool.and_eq_true, tupB_iff, beq_iff_eq]; exact ⟨ht, hck⟩⟩
theorem sumF_rng {f : Nat → Int} : ∀ {p : Nat}, p ≤ 16 → (∀ i, i < p → 0 ≤ f i ∧ f i ≤ 100000) → 0 ≤ sumF f p ∧ sumF f p ≤ p * 100000
  | 0, _, _ => ⟨Int.le_refl _, by simp [sumF]⟩
  | p + 1, hp, h => by
    have h1 := sumF_rng (p := p) (by omega) fun i hi => h i (by omega)
    have h2 := h p (by omega)
    have e : IntKind.i64.wrap (sumF f p + f p) = sumF f p + f p := by
      simp [IntKind.wrap, IntKind.bits, IntKind.signed]
      omega
    rw [sumF, e]
    omega
theorem sumF_succ {f : Nat → Int} {p : Nat} (hp : p < 16) (h : ∀ i, i < p + 1 → 0 ≤ f i ∧ f i ≤ 100000) : sumF f (p + 1) = sumF f p + f p := by
  have h1 := sumF_rng (p := p) (by omega) fun i hi => h i (by omega)
  have h2 := h p (by omega)
  rw [sumF]
  simp [IntKind.wrap, IntKind.bits, IntKind.signed]
  omega
theorem sumF_le {f f' : Nat → Int} (d : Int) (i : Nat) (hd : 0 ≤ d) (h1 : f' i ≤ f i + d) (h2 : ∀ j, j ≠ i → f' j = f j) : ∀ {p : Nat}, p ≤ 16 → (∀ i, i < p → 0 ≤ f i ∧ f i ≤ 100000) → (∀ i, i < p → 0 ≤ f' i ∧ f' i ≤ 100000) → sumF f' p ≤ sumF f p + (if i < p then d else 0)
  | 0, _, _, _ => by simp [sumF]
  | p + 1, hp, g1, g2 => by
    have ih := sumF_le d i hd h1 h2 (p := p) (by omega) (fun i hi => g1 i (by omega)) fun i hi => g2 i (by omega)
    rw [sumF_succ (by omega) g1, sumF_succ (by omega) g2]
    by_cases e : p = i
    · subst e
      rw [if_neg (by omega)] at ih
      rw [if_pos (by omega)]
      omega
    · have e2 := h2 p e
      by_cases e3 : i < p
      · rw [if_pos e3] at ih
        rw [if_pos (by omega)]
        omega
      · rw [if_neg e3] at ih
        rw [if_neg (by omega)]
        omega
theorem looks_le (h : LI r p n S b) {i : Nat} {s' : TSt} {d : Int} (hp : p ≤ 16) (hip : i < p) (hd : 0 ≤ d) (hb : 0 ≤ b ∧ b ≤ 1000) (hl : 0 ≤ s'.lk ∧ s'.lk ≤ (S i).lk + d) (hd2 : d ≤ 10) : sumF (fun j => (updS S i s' j).lk) p ≤ sumF (fun j => (S j).lk) p + d := by
  have := sumF_le (f := fun j => (S j).lk) (f' := fun j => (updS S i s' j).lk) d i hd (by simp only [updS_self]; omega) (fun j hj => by simp only [updS_ne _ _ hj]) hp (fun j hj => by have := h.lk j hj; omega) (fun j hj => by
    by_cases e : j = i
    · subst e
      simp only [updS_self]
      have := h.lk j hj
      omega
    · simp only [updS_ne _ _ e]
      have := h.lk j hj
      omega)
  rwa [if_pos hip] at this
/-- Live entries and free slots together are all slots. -/
theorem ents_free (hti : ∀ i, i < p → TI n (S i)) : ∀ q, q ≤ p → (entsL n q S).length + ((List.range q).map fun i => (S i).L.length).sum = q * n
  | 0, _ => by simp [entsL, catF]
  | q + 1, hq => by
    have ih := ents_free hti q (by omega)
    have := live_free (hti q (by omega))
    have e : entsL n (q + 1) S = entsL n q S ++ liveL n (S q) := rfl
    rw [e, List.length_append, List.range_succ, List.map_append, List.sum_append, Nat.succ_mul]
    simp
    omega
end
end Go.Proofs.YtbmmklgkbbbopaaGreat

namespace Go.Proofs.YtbmmklgkbbbopaaGreat
open Go Go.RowKit Go.Deep Go.Maps Go.ChangeMaps Go.ChangeShapes Go.WideShapes

set_option maxRecDepth 100000 in
set_option maxHeartbeats 8000000 in
theorem ref20_right (r : TRule) (w : World) : Calls Tryz.prog 6 #[r.val] w fun e w' => e = .returned (.bool (ruleOk r)) ∧ Below w.heap.size w w' := by
  have CR := Lib.hid fun W => refck_right r.wd r.sl r.gn W
  have RT := Lib.hid fun W => refright_any r.a r.b r.c r.d W
  have WG := Lib.hid fun (h : 1 ≤ r.G ∧ r.G ≤ 1024) W => refwheel_new r.G W h
  have WB := Lib.hid fun (h : r.G < 1 ∨ 1024 < r.G) W => refwheel_new_bad r.G W h
  obtain ⟨x, hx⟩ : ∃ x, ruleOk r = x := ⟨_, rfl⟩
  rw [hx]
  unfold ruleOk at hx
  obtain ⟨lo, hlo⟩ : ∃ x, layOk r.wd r.sl r.gn = x := ⟨_, rfl⟩
  obtain ⟨ro, hro⟩ : ∃ x, rightS r.a r.b r.c r.d = x := ⟨_, rfl⟩
  rw [hlo] at CR hx
  rw [hro] at RT hx
  have R0 := Blk.new w 30 r.cells.toArray
  have hb0 : Below w.heap.size w (w.alloc (.cells r.cells.toArray 30)) := below_alloc (Below.refl _ _) _
  obtain ⟨wd, sl, gn, ka, kb, np, a, b, c, d, G⟩ := r
  dsimp only at *
  clear hlo hro
  replace hx := Lib.hid hx
  go_enter Tryz.func6, Tryz.ntmps6
  go_upto_region 1 with fail
  change Code.wp _ _ _ _ (w.alloc (.cells (TRule.cells ⟨wd, sl, gn, ka, kb, np, a, b, c, d, G⟩).toArray 30))
  generalize w.alloc (.cells (TRule.cells ⟨wd, sl, gn, ka, kb, np, a, b, c, d, G⟩).toArray 30) = w0 at *
  obtain ⟨rb, hrb⟩ : ∃ r, w.heap.size = r := ⟨_, rfl⟩
  rw [hrb] at R0
  try rw [hrb]
  have RC := Lib.hid fun W (h : Below w0.heap.size w0 W) => RuleAt.of (R0.call h)
  obtain ⟨c0, c1, c2, c3, c4, c5, c6, c7, c8, c9, c10⟩ := RC.out w0 (Below.refl _ _)
  clear R0
  dsimp only at *
  cases lo
  · obtain rfl : false = x := by simpa using hx.out
    go_wp2_with (go_at_call 33; (with_reducible refine (CR.out _).mono ?_); rintro e w1 ⟨rfl, hb1⟩)
    go_ret
    exact ⟨rfl, (by repeat (first | exact Below.refl _ _ | assumption | refine below_alloc ?_ _ | refine below_chain (by assumption) ?_ | refine below_call2 (by assumption) ?_ (by first | omega | (simp; done) | (simp; omega) | (simp [World.setCell]; omega)) | refine below_drewN ?_ _ | refine Below.drew ?_ | refine Below.alloc ?_ (by first | omega | (simp; done) | (simp; omega) | (simp [World.setCell]; omega)) _ | refine Below.setCell ?_ (by first | omega | (simp; done) | (simp; omega) | (simp [World.setCell]; omega)) _))⟩
  · by_cases n1 : 1 ≤ np
    · have y1 : decide (1 ≤ np) = true := by simpa using n1
      by_cases n2 : np ≤ 16
      · have y2 : decide (np ≤ 16) = true := by simpa using n2
        cases ro
        · obtain rfl : false = x := by simpa using hx.out
          go_wp2_with (first
            | (go_at_call 33; (with_reducible refine (CR.out _).mono ?_); rintro e w1 ⟨rfl, hb1⟩; clear c0 c1 c2 c3 c4 c5 c6 c7 c8 c9 c10; obtain ⟨c0, c1, c2, c3, c4, c5, c6, c7, c8, c9, c10⟩ := RC.out _ hb1)
            | (go_at_call 34; (with_reducible refine (RT.out _).mono ?_); rintro e w2 ⟨rfl, hb2⟩))
          go_ret
          exact ⟨rfl, (by repeat (first | exact Below.refl _ _ | assumption | refine below_alloc ?_ _ | refine below_chain (by assumption) ?_ | refine below_call2 (by assumption) ?_ (by first | omega | (simp; done) | (simp; omega) | (simp [World.setCell]; omega)) | refine below_drewN ?_ _ | refine Below.drew ?_ | refine Below.alloc ?_ (by first | omega | (simp; done) | (simp; omega) | (simp [World.setCell]; omega)) _ | refine Below.setCell ?_ (by first | omega | (simp; done) | (simp; omega) | (simp [World.setCell]; omega)) _))⟩
        · by_cases hG : 1 ≤ G ∧ G ≤ 1024
          · obtain rfl : true = x := by
              have := hx.out
              simp at this
              rw [← this]
              simp
              omega
            have WN := Lib.hid (WG.out hG)
            clear WG WB
            go_wp2_with (first
              | (go_at_call 33; (with_reducible refine (CR.out _).mono ?_); rintro e w1 ⟨rfl, hb1⟩; clear c0 c1 c2 c3 c4 c5 c6 c7 c8 c9 c10; obtain ⟨c0, c1, c2, c3, c4, c5, c6, c7, c8, c9, c10⟩ := RC.out _ hb1)
              | (go_at_call 34; (with_reducible refine (RT.out _).mono ?_); rintro e w2 ⟨rfl, hb2⟩; clear c0 c1 c2 c3 c4 c5 c6 c7 c8 c9 c10; obtain ⟨c0, c1, c2, c3, c4, c5, c6, c7, c8, c9, c10⟩ := RC.out _ (below_chain hb2 hb1))
              | (go_at_call 35; (with_reducible refine (WN.out _).mono ?_); rintro e w3 ⟨rfl, -, hb3⟩))
            go_ret
            exact ⟨rfl, (by repeat (first | exact Below.refl _ _ | assumption | refine below_alloc ?_ _ | refine below_chain (by assumption) ?_ | refine below_call2 (by assumption) ?_ (by first | omega | (simp; done) | (simp; omega) | (simp [World.setCell]; omega)) | refine below_drewN ?_ _ | refine Below.drew ?_ | refine Below.alloc ?_ (by first | omega | (simp; done) | (simp; omega) | (simp [World.setCell]; omega)) _ | refine Below.setCell ?_ (by first | omega | (simp; done) | (simp; omega) | (simp [World.setCell]; omega)) _))⟩
          · obtain rfl : false = x := by
              have := hx.out
              simp at this
              rw [← this]
              simp
              omega
            have WN := Lib.hid (WB.out (by omega))
            clear WG WB
            go_wp2_with (first
              | (go_at_call 33; (with_reducible refine (CR.out _).mono ?_); rintro e w1 ⟨rfl, hb1⟩; clear c0 c1 c2 c3 c4 c5 c6 c7 c8 c9 c10; obtain ⟨c0, c1, c2, c3, c4, c5, c6, c7, c8, c9, c10⟩ := RC.out _ hb1)
              | (go_at_call 34; (with_reducible refine (RT.out _).mono ?_); rintro e w2 ⟨rfl, hb2⟩; clear c0 c1 c2 c3 c4 c5 c6 c7 c8 c9 c10; obtain ⟨c0, c1, c2, c3, c4, c5, c6, c7, c8, c9, c10⟩ := RC.out _ (below_chain hb2 hb1))
              | (go_at_call 35; (with_reducible refine (WN.out _).mono ?_); rintro e w3 ⟨rfl, rfl⟩))
            go_ret
            exact ⟨rfl, (by repeat (first | exact Below.refl _ _ | assumption | refine below_alloc ?_ _ | refine below_chain (by assumption) ?_ | refine below_call2 (by assumption) ?_ (by first | omega | (simp; done) | (simp; omega) | (simp [World.setCell]; omega)) | refine below_drewN ?_ _ | refine Below.drew ?_ | refine Below.alloc ?_ (by first | omega | (simp; done) | (simp; omega) | (simp [World.setCell]; omega)) _ | refine Below.setCell ?_ (by first | omega | (simp; done) | (simp; omega) | (simp [World.setCell]; omega)) _))⟩
      · have y2 : decide (np ≤ 16) = false := by simpa using n2
        obtain rfl : false = x := by
          have := hx.out
          simp at this
          rw [← this]
          simp
          omega
        go_wp2_with (go_at_call 33; (with_reducible refine (CR.out _).mono ?_); rintro e w1 ⟨rfl, hb1⟩; clear c0 c1 c2 c3 c4 c5 c6 c7 c8 c9 c10; obtain ⟨c0, c1, c2, c3, c4, c5, c6, c7, c8, c9, c10⟩ := RC.out _ hb1)
        go_ret
        exact ⟨rfl, (by repeat (first | exact Below.refl _ _ | assumption | refine below_alloc ?_ _ | refine below_chain (by assumption) ?_ | refine below_call2 (by assumption) ?_ (by first | omega | (simp; done) | (simp; omega) | (simp [World.setCell]; omega)) | refine below_drewN ?_ _ | refine Below.drew ?_ | refine Below.alloc ?_ (by first | omega | (simp; done) | (simp; omega) | (simp [World.setCell]; omega)) _ | refine Below.setCell ?_ (by first | omega | (simp; done) | (simp; omega) | (simp [World.setCell]; omega)) _))⟩
    · have y1 : decide (1 ≤ np) = false := by simpa using n1
      obtain rfl : false = x := by
        have := hx.out
        simp at this
        rw [← this]
        simp
        omega
      go_wp2_with (go_at_call 33; (with_reducible refine (CR.out _).mono ?_); rintro e w1 ⟨rfl, hb1⟩; clear c0 c1 c2 c3 c4 c5 c6 c7 c8 c9 c10; obtain ⟨c0, c1, c2, c3, c4, c5, c6, c7, c8, c9, c10⟩ := RC.out _ hb1)
      go_ret
      exact ⟨rfl, (by repeat (first | exact Below.refl _ _ | assumption | refine below_alloc ?_ _ | refine below_chain (by assumption) ?_ | refine below_call2 (by assumption) ?_ (by first | omega | (simp; done) | (simp; omega) | (simp [World.setCell]; omega)) | refine below_drewN ?_ _ | refine Below.drew ?_ | refine Below.alloc ?_ (by first | omega | (simp; done) | (simp; omega) | (simp [World.setCell]; omega)) _ | refine Below.setCell ?_ (by first | omega | (simp; done) | (simp; omega) | (simp [World.setCell]; omega)) _))⟩
/-- Are there few slots? -/
def small20 (r : TRule) : Bool := decide (r.sl ≤ 3) && decide (r.np ≤ 4)
set_option maxRecDepth 100000 in
set_option maxHeartbeats 4000000 in
theorem ref20_small (r : TRule) (w : World) : Calls Tryz.prog 7 #[r.val] w fun e w' => e = .returned (.bool (small20 r)) ∧ Below w.heap.size w w' := by
  have R0 := Blk.new w 30 r.cells.toArray
  have hb0 : Below w.heap.size w (w.alloc (.cells r.cells.toArray 30)) := below_alloc (Below.refl _ _) _
  obtain ⟨c0, c1, c2, c3, c4, c5, c6, c7, c8, c9, c10⟩ := RuleAt.of R0
  obtain ⟨x, hx⟩ : ∃ x, small20 r = x := ⟨_, rfl⟩
  rw [hx]
  unfold small20 at hx
  obtain ⟨wd, sl, gn, ka, kb, np, a, b, c, d, G⟩ := r
  dsimp only at *
  clear R0
  obtain ⟨y1, h1⟩ : ∃ y, decide (sl ≤ 3) = y := ⟨_, rfl⟩
  obtain ⟨y2, h2⟩ : ∃ y, decide (np ≤ 4) = y := ⟨_, rfl⟩
  rw [h1, h2] at hx
  go_enter Tryz.func7, Tryz.ntmps7
  go_upto_region 1 with fail
  change Code.wp _ _ _ _ (w.alloc (.cells (TRule.cells ⟨wd, sl, gn, ka, kb, np, a, b, c, d, G⟩).toArray 30))
  generalize w.alloc (.cells (TRule.cells ⟨wd, sl, gn, ka, kb, np, a, b, c, d, G⟩).toArray 30) = w0 at *
  cases y1
  · obtain rfl : false = x := hx
    go_wp2_with fail
    go_ret
    exact ⟨rfl, hb0⟩
  · obtain rfl : y2 = x := by simpa using hx
    go_wp2_with fail
    go_ret
    exact ⟨rfl, hb0⟩
set_option maxRecDepth 100000 in
set_option maxHeartbeats 8000000 in
theorem law20_of (r : TRule) (w : World) : Calls Tryz.prog 10 #[r.val] w fun e w' => e = .returned r.val ∧ Below w.heap.size w w' := by
  have R0 := Blk.new w 30 r.cells.toArray
  obtain ⟨c0, c1, c2, c3, c4, c5, c6, c7, c8, c9, c10⟩ := RuleAt.of (R0.alloc (.cells #[.bool false, .int .i64 0, .int .i64 0, .int .u64 0, .int .u64 0, .int .i64 0, .int .i64 0, .int .i64 0, .int .i64 0, .int .i64 0, .int .i64 0] 38))
  have B := Blk.new (w.alloc (.cells r.cells.toArray 30)) 38 r.cells.toArray
  have hb0 : Below w.heap.size w ((w.alloc (.cells r.cells.toArray 30)).alloc (.cells r.cells.toArray 38)) := below_alloc (below_alloc (Below.refl _ _) _) _
  rw [World.size_alloc] at B
  obtain ⟨wd, sl, gn, ka, kb, np, a, b, c, d, G⟩ := r
  dsimp only at *
  clear R0
  go_enter Tryz.func10, Tryz.ntmps10
  go_wp2_with fail
  clear c0 c1 c2 c3 c4 c5 c6 c7 c8 c9 c10
  obtain ⟨c0, c1, c2, c3, c4, c5, c6, c7, c8, c9, c10⟩ := RuleAt.of B
  dsimp only at *
  refine bodyPost_ret (v := TRule.val ⟨wd, sl, gn, ka, kb, np, a, b, c, d, G⟩) (by simp [results, Tryz.results10, go_sem, c0, c1, c2, c3, c4, c5, c6, c7, c8, c9, c10]) rfl ?_
  exact ⟨rfl, hb0⟩
/-- One step that a law is given. -/
structure T20 where
  kd : Int
  tu : Tup
  n : Int
  bk : Int
  ck : Int
  pk : Int
abbrev T20.cells (x : T20) : List Value := [.int .i64 x.kd, .int .i64 x.tu.p, .bool x.tu.v, .int .u64 x.tu.hi, .int .u64 x.tu.lo, .bool x.tu.v', .int .u64 x.tu.hi', .int .u64 x.tu.lo', .int .i64 x.tu.sp, .int .i64 x.tu.dp, .int .i64 x.n, .int .i64 x.bk, .int .u64 x.ck, .int .i64 x.pk]
abbrev T20.val (x : T20) : Value := .agg x.cells.toArray
def t20Wf (x : T20) : Prop := (0 ≤ x.ck ∧ x.ck < 18446744073709551616) ∧ tupWf x.tu
abbrev OwnU (w : World) (base : Nat) (A : Option Addr) (c : Nat) (l : List Int) : Prop := OwnA (fun x => [.int .u64 x]) 1 24 w base A c l
theorem flat_u64 (l : List Int) : l.flatMap (fun x => [Value.int .u64 x]) = l.map (.int .u64) := by
  induction l with
  | nil => rfl
  | cons a l ih => rw [List.flatMap_cons, ih]; rfl
set_option maxRecDepth 100000 in
set_option maxHeartbeats 8000000 in
theorem law20_chosen (s : T20) (hs : t20Wf s) (A : Option Addr) (c : Nat) (cs : List Int) (hcs : ∀ x ∈ cs, 0 ≤ x ∧ x < 18446744073709551616) (hl : cs.length ≤ 1000000) (w : World) (hr : Reads w w.heap.size 1 A cs.length (cs.map (.int .u64))) :
    ∃ k : Nat, k < 18446744073709551616 ∧ Calls Tryz.prog 13 #[s.val, .slice A cs.length c] w fun e w' => e = .returned (.int .u64 (k : Int)) ∧ Below w.heap.size w w' := by
  have S0 := Blk.new w 49 s.cells.toArray
  have s4 : (w.alloc (.cells s.cells.toArray 49)).cell? ⟨w.heap.size, 12, none⟩ = some (.int .u64 s.ck) := S0.cell 12
  have s5 : (w.alloc (.cells s.cells.toArray 49)).cell? ⟨w.heap.size, 13, none⟩ = some (.int .i64 s.pk) := S0.cell 13
  have hb0 : Below w.heap.size w (w.alloc (.cells s.cells.toArray 49)) := below_alloc (Below.refl _ _) _
  obtain ⟨kd, ⟨tp, v, hi, lo, v', hi', lo', sp, dp⟩, sn, bk, ck, pk⟩ := s
  have hck := hs.1
  clear S0 hs
  dsimp only at *
  obtain ⟨m, rfl⟩ : ∃ m : Nat, ck = m := ⟨ck.toNat, by omega⟩
  by_cases h1 : pk < 0
  · have x1 : decide (pk < 0) = true := by simpa using h1
    refine ⟨m, by omega, ?_⟩
    go_enter Tryz.func13, Tryz.ntmps13
    go_wp2_with fail
    go_ret
    exact ⟨rfl, hb0⟩
  · have x1 : decide (pk < 0) = false := by simpa using h1
    by_cases h2 : cs.length = 0
    · have x2 : ((cs.length : Int) == 0) = true := by rw [h2]; rfl
      refine ⟨m, by omega, ?_⟩
      go_enter Tryz.func13, Tryz.ntmps13
      go_wp2_with fail
      go_ret
      exact ⟨rfl, hb0⟩
    · have x2 : ((cs.length : Int) == 0) = false := by rw [beq_eq_false_iff_ne]; omega
      obtain ⟨j, hj, hjl⟩ : ∃ j : Nat, pk.tmod (cs.length : Int) = (j : Int) ∧ j < cs.length := by
        have e := Int.tmod_eq_emod_of_nonneg (b := (cs.length : Int)) (show 0 ≤ pk by omega)
        have e1 := Int.emod_nonneg pk (show (cs.length : Int) ≠ 0 by omega)
        have e2 := Int.emod_lt_of_pos pk (show 0 < (cs.length : Int) by omega)
        rw [e]
        clear e
        generalize hz : pk % (cs.length : Int) = z at *
        exact ⟨z.toNat, by omega, by omega⟩
      obtain ⟨ad, rfl, hbl, hc⟩ := (hr.below hb0).intk_at hjl
      have hx := hcs (cs.getD j 0) (by rw [List.getD_eq_getElem?_getD, List.getElem?_eq_getElem hjl]; exact List.getElem_mem hjl)
      obtain ⟨z, hz⟩ : ∃ z : Nat, cs.getD j 0 = z := ⟨(cs.getD j 0).toNat, by omega⟩
      rw [hz] at hc
      have hji : (j : Int) < (cs.length : Int) := by omega
      refine ⟨z, by omega, ?_⟩
      clear hr hcs
      go_enter Tryz.func13, Tryz.ntmps13
      go_wp2_with fail
      go_ret
      exact ⟨rfl, hb0⟩
theorem t20_at14 {w : World} {B : Nat} {A : Option Addr} {l : List T20} (h : Reads w B 14 A l.length (l.flatMap T20.cells)) {k : Nat} (hk : k < l.length) :
    ∃ ad s, A = some ad ∧ ad.block < B ∧ l[k]? = some s ∧ (w.cell? (ad.add (k * 14)) = some (.int .i64 s.kd) ∧ w.cell? ⟨(ad.add (k * 14)).block, (ad.add (k * 14)).off + 1, none⟩ = some (.int .i64 s.tu.p) ∧ w.cell? ⟨(ad.add (k * 14)).block, (ad.add (k * 14)).off + 2, none⟩ = some (.bool s.tu.v) ∧ w.cell? ⟨(ad.add (k * 14)).block, (ad.add (k * 14)).off + 3, none⟩ = some (.int .u64 s.tu.hi) ∧ w.cell? ⟨(ad.add (k * 14)).block, (ad.add (k * 14)).off + 4, none⟩ = some (.int .u64 s.tu.lo) ∧ w.cell? ⟨(ad.add (k * 14)).block, (ad.add (k * 14)).off + 5, none⟩ = some (.bool s.tu.v') ∧ w.cell? ⟨(ad.add (k * 14)).block, (ad.add (k * 14)).off + 6, none⟩ = some (.int .u64 s.tu.hi') ∧ w.cell? ⟨(ad.add (k * 14)).block, (ad.add (k * 14)).off + 7, none⟩ = some (.int .u64 s.tu.lo') ∧ w.cell? ⟨(ad.add (k * 14)).block, (ad.add (k * 14)).off + 8, none⟩ = some (.int .i64 s.tu.sp) ∧ w.cell? ⟨(ad.add (k * 14)).block, (ad.add (k * 14)).off + 9, none⟩ = some (.int .i64 s.tu.dp) ∧ w.cell? ⟨(ad.add (k * 14)).block, (ad.add (k * 14)).off + 10, none⟩ = some (.int .i64 s.n) ∧ w.cell? ⟨(ad.add (k * 14)).block, (ad.add (k * 14)).off + 11, none⟩ = some (.int .i64 s.bk) ∧ w.cell? ⟨(ad.add (k * 14)).block, (ad.add (k * 14)).off + 12, none⟩ = some (.int .u64 s.ck) ∧ w.cell? ⟨(ad.add (k * 14)).block, (ad.add (k * 14)).off + 13, none⟩ = some (.int .i64 s.pk)) := by
  obtain ⟨ad, rfl, hb, hc⟩ := h.rec_at T20.cells (fun _ => rfl) hk
  exact ⟨ad, l[k], rfl, hb, List.getElem?_eq_getElem hk, hc 0 _ rfl, hc 1 _ rfl, hc 2 _ rfl, hc 3 _ rfl, hc 4 _ rfl, hc 5 _ rfl, hc 6 _ rfl, hc 7 _ rfl, hc 8 _ rfl, hc 9 _ rfl, hc 10 _ rfl, hc 11 _ rfl, hc 12 _ rfl, hc 13 _ rfl⟩
theorem info_u64P : (Tryz.prog.info? 24).map (fun i => (i.zero, i.size, i.bytes)) = some (some (.int .u64 0), 1, 8) := by kernel_rfl
theorem wpList_push_u64 {W : World} {cs : Array Value} {ops : Array Oper} {rest : List Oper} {o : Oper} {a : Act} {Q : Exit → Act → World → Prop} (hgd : o.guard = none) (s x : Operand)
    (ho : o.op = .call { callee := .builtin .append, args := #[s, x], argTypes := #[43, 43] })
    (base : Nat) (A : Option Addr) (c : Nat) (l : List Int) (v : Int) (n : Nat) (hn : l.length = n) (hs : a.eval s = .slice A n c) (hown : OwnU W base A c l) (g : Nat) (hg : g = W.heap.size) (hcs : ([Value.int .u64 v]).toArray = cs)
    (hx : a.eval x = .slice (some ⟨g, 0, none⟩) 1 1) (hl : l.length ≤ 1000000) (hbase : base ≤ W.heap.size)
    (h : ∀ A' c' w', OwnU w' base A' c' (l ++ [v]) → Pushed W w' A A' → wpList Tryz.prog ops Q rest (a.put o.dst (.slice A' (n + 1) c')) w') : wpList Tryz.prog ops Q (o :: rest) a (W.alloc (.cells cs 24)) := by
  obtain ⟨i0, hi0, hz0, hz1, hz2⟩ := info_parts info_u64P
  exact wpList_push (fun x : Int => [Value.int .u64 x]) 1 (fun _ => rfl) (fun b u hu => by
    simp at hu; subst hu; rfl) (by omega) 43 i0 _ 8 Tryz.underlying43 hi0 hz0 hz1 hz2 rfl (by omega) hgd s x ho base A c l v n hn hs hown g hg hcs hx hl hbase h
theorem any_succ {α : Type} (L : List α) (f : α → Bool) {i : Nat} (h : i < L.length) : (L.take (i + 1)).any f = ((L.take i).any f || f L[i]) := by
  rw [List.take_succ_eq_append_getElem h, List.any_append]
  simp
theorem ent_neq (x y : Slt) (w : World) : (binOp .neq 52 x.val y.val).run Tryz.prog w = .ok (.bool (!entB x y)) w := by
  have h := ent_eql x y w
  rw [run_eql_struct] at h
  rw [run_neq_struct]
  cases hh : (Op.equalIn 10000 52 x.val y.val).run Tryz.prog w with
  | ok b w' =>
    rw [hh] at h
    simp only [Result.andThen] at h ⊢
    simp only [Result.ok.injEq, Value.bool.injEq] at h
    obtain ⟨rfl, rfl⟩ := h
    rfl
  | _ => rw [hh] at h; simp [Result.andThen] at h
theorem entB_self (x : Slt) : entB x x = true := by
  unfold entB
  simp [tupB_iff]
/-- What the test of a live entry reads: the entry, a step's tuple. -/
@[reducible] def IsAt (ad : Addr) (rs : Nat) (x : Slt) (t : Tup) (W : World) : Prop := W.cell? ad = some (.int .i64 x.t.p) ∧ W.cell? ⟨ad.block, ad.off + 1, none⟩ = some (.bool x.t.v) ∧ W.cell? ⟨ad.block, ad.off + 2, none⟩ = some (.int .u64 x.t.hi) ∧ W.cell? ⟨ad.block, ad.off + 3, none⟩ = some (.int .u64 x.t.lo) ∧ W.cell? ⟨ad.block, ad.off + 4, none⟩ = some (.bool x.t.v') ∧ W.cell? ⟨ad.block, ad.off + 5, none⟩ = some (.int .u64 x.t.hi') ∧ W.cell? ⟨ad.block, ad.off + 6, none⟩ = some (.int .u64 x.t.lo') ∧ W.cell? ⟨ad.block, ad.off + 7, none⟩ = some (.int .i64 x.t.sp) ∧ W.cell? ⟨ad.block, ad.off + 8, none⟩ = some (.int .i64 x.t.dp) ∧ W.cell? ⟨ad.block, ad.off + 9, none⟩ = some (.int .i64 x.bk) ∧ W.cell? ⟨ad.block, ad.off + 10, none⟩ = some (.int .i64 x.st) ∧ W.cell? ⟨ad.block, ad.off + 11, none⟩ = some (.int .i64 x.sl) ∧ W.cell? ⟨ad.block, ad.off + 12, none⟩ = some (.int .u64 x.gen) ∧ W.cell? ⟨ad.block, ad.off + 13, none⟩ = some (.int .i64 x.due) ∧
  W.cell? ⟨rs, 1, none⟩ = some (.int .i64 t.p) ∧ W.cell? ⟨rs, 2, none⟩ = some (.bool t.v) ∧ W.cell? ⟨rs, 3, none⟩ = some (.int .u64 t.hi) ∧ W.cell? ⟨rs, 4, none⟩ = some (.int .u64 t.lo) ∧ W.cell? ⟨rs, 5, none⟩ = some (.bool t.v') ∧ W.cell? ⟨rs, 6, none⟩ = some (.int .u64 t.hi') ∧ W.cell? ⟨rs, 7, none⟩ = some (.int .u64 t.lo') ∧ W.cell? ⟨rs, 8, none⟩ = some (.int .i64 t.sp) ∧ W.cell? ⟨rs, 9, none⟩ = some (.int .i64 t.dp)
theorem IsAt.call {ad : Addr} {rs : Nat} {x : Slt} {t : Tup} {W W' : World} (h : IsAt ad rs x t W) (hb : Below W.heap.size W W') : IsAt ad rs x t W' := by
  have k : ∀ {a : Addr} {v : Value}, W.cell? a = some v → W'.cell? a = some v := fun e => (hb.cell (block_lt_of_cell e)).trans e
  obtain ⟨h0, h1, h2, h3, h4, h5, h6, h7, h8, h9, h10, h11, h12, h13, h14, h15, h16, h17, h18, h19, h20, h21, h22⟩ := h
  exact ⟨k h0, k h1, k h2, k h3, k h4, k h5, k h6, k h7, k h8, k h9, k h10, k h11, k h12, k h13, k h14, k h15, k h16, k h17, k h18, k h19, k h20, k h21, k h22⟩
end Go.Proofs.YtbmmklgkbbbopaaGreat

namespace Go.Proofs.YtbmmklgkbbbopaaGreat
open Go Go.RowKit Go.Deep Go.Maps Go.ChangeMaps

/-- A law's blocks that are not the tables': its rule, and what it keeps. -/
abbrev K20 (rb : Nat) (A : Option Addr) : Nat → Prop := fun b => b = rb ∨ InB A b
set_option maxRecDepth 100000 in
set_option maxHeartbeats 64000000 in
theorem tablesFind_no (r : TRule) (l : List T20) (B : Option Addr) (d : Nat) (w : World) (hno : ruleOk r = false ∨ small20 r = false ∨ 30 < l.length) :
    Calls Tryz.prog 4 #[r.val, .slice B l.length d] w fun e w' => e = .returned (.bool true) ∧ Below w.heap.size w w' := by
  have RR := Lib.hid fun W => ref20_right r W
  have SM := Lib.hid fun W => ref20_small r W
  have R0 := Blk.new w 30 r.cells.toArray
  have hb0 : Below w.heap.size w (w.alloc (.cells r.cells.toArray 30)) := below_alloc (Below.refl _ _) _
  obtain ⟨y, hy⟩ : ∃ y, ruleOk r = y := ⟨_, rfl⟩
  obtain ⟨z, hz⟩ : ∃ z, small20 r = z := ⟨_, rfl⟩
  rw [hy] at RR hno
  rw [hz] at SM hno
  have RC := Lib.hid fun W (hb : Below (w.alloc (.cells r.cells.toArray 30)).heap.size (w.alloc (.cells r.cells.toArray 30)) W) => RuleAt.of (R0.call hb)
  obtain ⟨c0, c1, c2, c3, c4, c5, c6, c7, c8, c9, c10⟩ := RC.out _ (Below.refl _ _)
  obtain ⟨wd, sl, gn, ka, kb, np, a, b, c, d2, G⟩ := r
  dsimp only at *
  clear hy hz R0
  go_enter Tryz.func4, Tryz.ntmps4
  go_upto_region 1 with fail
  change Code.wp _ _ _ _ (w.alloc (.cells (TRule.cells ⟨wd, sl, gn, ka, kb, np, a, b, c, d2, G⟩).toArray 30))
  generalize w.alloc (.cells (TRule.cells ⟨wd, sl, gn, ka, kb, np, a, b, c, d2, G⟩).toArray 30) = w0 at *
  cases y
  · clear hno
    go_wp2_with (first
      | (go_at_call 6; (with_reducible refine (RR.out _).mono ?_); rintro e w1 ⟨rfl, hb1⟩)
      | (go_at_call 8; (with_reducible refine (awake20 _).mono ?_); rintro e w2 ⟨rfl, hb2⟩))
    go_ret
    exact ⟨rfl, below_chain hb2 (below_chain hb1 hb0)⟩
  · cases z
    · clear hno
      go_wp2_with (first
        | (go_at_call 6; (with_reducible refine (RR.out _).mono ?_); rintro e w1 ⟨rfl, hb1⟩; clear c0 c1 c2 c3 c4 c5 c6 c7 c8 c9 c10; obtain ⟨c0, c1, c2, c3, c4, c5, c6, c7, c8, c9, c10⟩ := RC.out _ hb1)
        | (go_at_call 7; (with_reducible refine (SM.out _).mono ?_); rintro e w3 ⟨rfl, hb3⟩)
        | (go_at_call 8; (with_reducible refine (awake20 _).mono ?_); rintro e w2 ⟨rfl, hb2⟩))
      go_ret
      exact ⟨rfl, below_chain hb2 (below_chain hb3 (below_chain hb1 hb0))⟩
    · have h30 : 30 < l.length := by
        rcases hno with h | h | h
        · cases h
        · cases h
        · exact h
      have e30 : decide ((30 : Int) < (l.length : Int)) = true := by simp; omega
      have e31 : decide (30 < l.length) = true := by simp; omega
      clear hno
      go_wp2_with (first
        | (go_at_call 6; (with_reducible refine (RR.out _).mono ?_); rintro e w1 ⟨rfl, hb1⟩; clear c0 c1 c2 c3 c4 c5 c6 c7 c8 c9 c10; obtain ⟨c0, c1, c2, c3, c4, c5, c6, c7, c8, c9, c10⟩ := RC.out _ hb1)
        | (go_at_call 7; (with_reducible refine (SM.out _).mono ?_); rintro e w3 ⟨rfl, hb3⟩)
        | (go_at_call 8; (with_reducible refine (awake20 _).mono ?_); rintro e w2 ⟨rfl, hb2⟩))
      go_ret
      exact ⟨rfl, below_chain hb2 (below_chain hb3 (below_chain hb1 hb0))⟩
end Go.Proofs.YtbmmklgkbbbopaaGreat
