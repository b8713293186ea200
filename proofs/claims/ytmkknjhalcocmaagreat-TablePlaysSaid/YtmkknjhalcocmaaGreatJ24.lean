/- table: the law TableAgain, called. table: what a call does to slots, in plain words; the law's at. table: the document's list of live entries, in plain words. -/
import Derived.Test.YtmkknjhalcocmaaGreatJ23
namespace Go.Proofs.YtmkknjhalcocmaaGreat
open Go Go.RowKit Go.Deep Go.Maps Go.ChangeMaps

/-- The rule of the laws. -/
abbrev lwC : TCfg := ⟨3, 20, 5, 8, 4⟩
theorem TabN.drewN {w0 w : World} {g sb n : Nat} {c : TCfg} {s : TSt} {K : Nat → Prop} (h : TabN w0 w g sb n c s K) (m : Nat) : TabN w0 (w.drewN m) g sb n c s K := h.call0 (below_drewN (Below.refl _ _) m)
theorem closeV_no {n : Nat} {s : TSt} {i : Int} (h : closeOk n s i = false) : closeV n s i = slt0 := by
  unfold closeV
  rw [h]
  rfl
theorem closeV_yes {n : Nat} {s : TSt} {i : Int} (h : closeOk n s i = true) : closeV n s i = s.E i.toNat := by
  unfold closeV
  rw [h]
  rfl
/-- What stands behind an entry that was let go, and was opened again. -/
structure Again (n k : Nat) (s : TSt) (x : Slt) (s1 s2 s3 : TSt) (a : Slt) : Prop where
  xk : x.sl = k
  e1 : s1 = closeS n s k
  e2 : s2 = lookS n k s1
  e3 : s3 = openS lwC n s2 x.t 7 2
  no1 : findOk n s1 x.t k 0 0 = false
  l1 : s2.L.length = s.L.length + 1
  g1 : genI n s2.E k = IntKind.u64.wrap (x.gen + 1)
  oe : openE s2 x.t 7 2 = 0
  ov : openV lwC s2 x.t 7 2 = a
  ak : a.sl = k
  ag : a.gen = IntKind.u64.wrap (x.gen + 1)
  ab : a.bk = 7
  at_ : a.t = x.t
  l3 : s3.L.length = s.L.length
  find : ∀ (lk : Int) (y : Tup) (low : Int), findOk n { s3 with lk := lk } y k low 1 = (tupB x.t y && (a.gen % 2 == low))
  par : 0 ≤ a.gen ∧ (a.gen % 2 == x.gen % 2) = false
theorem again_tup {t : Tup} (h : tupW t) : openOk t 7 2 = true := by
  unfold openOk
  rw [h.1]
  unfold beginS firstB
  rcases h.2 with e | e
  · rw [e]
    decide
  · rw [e]
    decide
theorem again_any {n k : Nat} {s : TSt} (h : TI n s) (hk : k < n) (hu : (s.E k).used = true) : ∃ s1 s2 s3 a, Again n k s (s.E k) s1 s2 s3 a := by
  have hc : closeOk n s k = true := closeOk_iff.2 ⟨k, rfl, hk, hu⟩
  have hlk : lookOk n (k : Int) = true := by unfold lookOk; simp; omega
  have h1 : closeS n s k = goS n (lookS n k s) k := by rw [closeS_yes hc, Int.toNat_natCast]
  have hE1 : (closeS n s k).E k = clrS (s.E k) := by
    rw [h1]
    show updE (lookS n k s).E k (clrS ((lookS n k s).E k)) k = _
    rw [updE_self, lookS_E]
  have hL1 : (closeS n s k).L = (k : Int) :: s.L := by
    rw [h1]
    show pushL n (lookS n k s).L k = _
    rw [lookS_L, pushL_used h hk hu]
  have hL2 : (lookS n k (closeS n s k)).L = (k : Int) :: s.L := by rw [lookS_L, hL1]
  have ho := again_tup (h.tup k hk hu)
  have hgr := h.gr k hk
  have hE2 : (lookS n k (closeS n s k)).E k = clrS (s.E k) := by rw [lookS_E, hE1]
  have hov := openV_yes (c := lwC) ho hL2
  have hos := openS_yes (n := n) (c := lwC) ho hL2
  rw [Int.toNat_natCast, hE2] at hov
  rw [Int.toNat_natCast] at hos
  refine ⟨_, _, _, _, ⟨h.sl k hk, rfl, rfl, rfl, ?_, ?_, ?_, ?_, rfl, ?_, ?_, ?_, ?_, ?_, fun lk y low => ?_, ?_⟩⟩
  · unfold findOk
    have : closeOk n (closeS n s k) k = false := by
      unfold closeOk
      rw [Int.toNat_natCast, hE1]
      exact Bool.and_false _
    rw [this, Bool.false_and]
  · rw [hL2]
    rfl
  · unfold genI
    rw [hlk, if_pos rfl, Int.toNat_natCast, hE2]
    rfl
  · unfold openE
    rw [ho, if_pos rfl, hL2]
    rfl
  · rw [hov]
    exact h.sl k hk
  · rw [hov]
    rfl
  · rw [hov]
    rfl
  · rw [hov]
    rfl
  · rw [hos]
  · rw [hos]
    unfold findOk closeOk
    rw [hlk, Int.toNat_natCast]
    dsimp only
    rw [updE_self, hov]
    have hg := wrap64_rng ((s.E k).gen + 1)
    have e := low_bit hg
    show (true && true && (true && (tupB (s.E k).t y && (bits BinOp.and IntKind.u64 (IntKind.u64.wrap ((s.E k).gen + 1)) (maskI 1) == low)))) = _
    rw [e]
    rfl
  · rw [hov]
    show 0 ≤ IntKind.u64.wrap ((s.E k).gen + 1) ∧ (IntKind.u64.wrap ((s.E k).gen + 1) % 2 == (s.E k).gen % 2) = false
    refine ⟨(wrap64_rng _).1, ?_⟩
    rw [beq_eq_false_iff_ne]
    simp [IntKind.wrap, IntKind.bits, IntKind.signed]
    omega
theorem lwC_right : lwC.right := right_idle rfl
end Go.Proofs.YtmkknjhalcocmaaGreat

namespace Go.Proofs.YtmkknjhalcocmaaGreat
open Go Go.RowKit Go.Deep Go.Maps Go.ChangeMaps

/-- A step: who is not behind it any more has a generation more; at most one slot is looked at. -/
def StepR (n : Nat) (s s' : TSt) : Prop :=
  (∀ k : Nat, k < n → (s'.E k).gen = if (s.E k).used && !(s'.E k).used then IntKind.u64.wrap ((s.E k).gen + 1) else (s.E k).gen) ∧ (s'.lk = s.lk ∨ s'.lk = s.lk + 1)
section
variable {n : Nat} {s s' : TSt}
theorem StepR.refl (n : Nat) (s : TSt) : StepR n s s := ⟨fun k _ => by cases (s.E k).used <;> rfl, .inl rfl⟩
theorem look_lk (h : 0 ≤ s.lk ∧ s.lk ≤ 1000) (i : Int) : (lookS n i s).lk = s.lk ∨ (lookS n i s).lk = s.lk + 1 := by
  unfold lookS
  split
  · right
    show wrap64 (s.lk + 1) = s.lk + 1
    unfold wrap64
    omega
  · exact .inl rfl
theorem stepR_look (h : 0 ≤ s.lk ∧ s.lk ≤ 1000) (i : Int) : StepR n s (lookS n i s) := ⟨fun k _ => by rw [lookS_E]; cases (s.E k).used <;> rfl, look_lk h i⟩
theorem stepR_gone (h : 0 ≤ s.lk ∧ s.lk ≤ 1000) (i : Int) {k : Nat} (hu : (s.E k).used = true) : StepR n s (goS n (lookS n i s) k) := by
  refine ⟨fun j _ => ?_, look_lk h i⟩
  show (updE (lookS n i s).E k (clrS ((lookS n i s).E k)) j).gen = if (s.E j).used && !(updE (lookS n i s).E k (clrS ((lookS n i s).E k)) j).used then _ else _
  rw [lookS_E]
  by_cases e : j = k
  · subst e
    rw [updE_self, hu]
    rfl
  · rw [updE_ne _ _ e]
    cases (s.E j).used <;> rfl
theorem stepR_put (h : 0 ≤ s.lk ∧ s.lk ≤ 1000) (i : Int) {k : Nat} {x : Slt} (hx : x.used = true) (hg : x.gen = (s.E k).gen) {s' : TSt} (hE : s'.E = updE s.E k x) (hl : s'.lk = (lookS n i s).lk) : StepR n s s' := by
  refine ⟨fun j _ => ?_, by rw [hl]; exact look_lk h i⟩
  rw [hE]
  by_cases e : j = k
  · subst e
    rw [updE_self, hx, hg]
    cases (s.E j).used <;> rfl
  · rw [updE_ne _ _ e]
    cases (s.E j).used <;> rfl
theorem stepR_close (h : 0 ≤ s.lk ∧ s.lk ≤ 1000) (i : Int) : StepR n s (closeS n s i) := by
  cases hc : closeOk n s i
  · rw [closeS_no hc]
    exact stepR_look h i
  · obtain ⟨k, rfl, hk, hu⟩ := closeOk_iff.1 hc
    rw [closeS_yes hc, Int.toNat_natCast]
    exact stepR_gone h _ hu
theorem stepR_touch {c : TCfg} (h : 0 ≤ s.lk ∧ s.lk ≤ 1000) (i fl : Int) : StepR n s (touchS c n s i fl) := by
  cases hc : closeOk n s i
  · rw [touchS_no hc]
    exact stepR_look h i
  · obtain ⟨k, rfl, hk, hu⟩ := closeOk_iff.1 hc
    by_cases h4 : nextS (s.E ((k : Int)).toNat).st fl = 4
    · rw [touchS_gone hc h4, Int.toNat_natCast]
      exact stepR_gone h _ hu
    · rw [touchS_stay hc h4]
      refine stepR_put (i := k) (k := k) (x := touchV c n s k fl) h ?_ ?_ rfl rfl
      · rw [touchV_stay hc h4, Int.toNat_natCast]
        exact hu
      · rw [touchV_stay hc h4, Int.toNat_natCast]
        rfl
theorem stepR_open {c : TCfg} (hi : TI n s) (h : 0 ≤ s.lk ∧ s.lk ≤ 1000) (t : Tup) (bk fl : Int) : StepR n s (openS c n s t bk fl) := by
  cases ho : openOk t bk fl
  · rw [openS_no ho]
    exact StepR.refl n s
  · cases hL : s.L with
    | nil => rw [openS_full hL]; exact StepR.refl n s
    | cons i l =>
      have hi := hi.rng i (by rw [hL]; exact List.mem_cons_self)
      obtain ⟨k, rfl⟩ : ∃ k : Nat, i = (k : Int) := ⟨i.toNat, by omega⟩
      rw [openS_yes ho hL, openV_yes ho hL, Int.toNat_natCast]
      exact stepR_put (i := k) (k := k) (x := { openX (s.E k) t bk fl with due := dueT c s.now (beginS t.p fl) }) h rfl rfl rfl rfl
theorem stepR_of (P : Nat → Prop) [DecidablePred P] (hE : ∀ k : Nat, k < n → (s'.E k) = if P k then clrS (s.E k) else s.E k) (hu : ∀ k : Nat, k < n → P k → (s.E k).used = true) (hl : s'.lk = s.lk) : StepR n s s' := by
  refine ⟨fun k hk => ?_, .inl hl⟩
  rw [hE k hk]
  by_cases hp : P k
  · rw [if_pos hp, hu k hk hp]
    rfl
  · rw [if_neg hp]
    cases (s.E k).used <;> rfl
theorem stepR_go (hi : TI n s) {G nw : Int} {S : List Int} (hS : GoS G s.now nw s.M S) : StepR n s (goTab n s nw S) := by
  obtain ⟨-, h2, -, -, -, h6⟩ := hi.go hS
  refine stepR_of (fun k => (k : Int) ∈ S) (fun k _ => h2 k) (fun k hk hp => ?_) h6
  cases hg : goOk s.now nw
  · rw [hS.no hg] at hp
    cases hp
  · have := (hi.has _).1 ((hS.mem hg _).1 hp).1
    rw [Int.toNat_natCast] at this
    exact this.2.2
theorem stepR_drop (hi : TI n s) (P : Slt → Bool) : StepR n s (dropS n s (allL s.E P n)) := by
  obtain ⟨-, h2, -, -, h6⟩ := hi.drop P
  refine stepR_of (fun k => ((s.E k).used && P (s.E k)) = true) h2 (fun k _ hp => ?_) h6
  rw [Bool.and_eq_true] at hp
  exact hp.1
/-- Who is live, by slots. -/
theorem mem_liveL {x : Slt} : x ∈ liveL n s ↔ ∃ k : Nat, k < n ∧ (s.E k).used = true ∧ s.E k = x := by
  unfold liveL entsOf allL
  rw [List.mem_map]
  constructor
  · rintro ⟨k, hk, rfl⟩
    rw [List.mem_filter, List.mem_range, Bool.and_true] at hk
    exact ⟨k, hk.1, hk.2, rfl⟩
  · rintro ⟨k, hk, hu, rfl⟩
    exact ⟨k, by rw [List.mem_filter, List.mem_range, Bool.and_true]; exact ⟨hk, hu⟩, rfl⟩
def atB (L : List Slt) (k : Nat) : Bool := L.any fun x => x.sl == (k : Int)
theorem at_live (hi : TI n s) {k : Nat} (hk : k < n) : atB (liveL n s) k = (s.E k).used := by
  unfold atB
  rw [Bool.eq_iff_iff, List.any_eq_true]
  constructor
  · rintro ⟨x, hx, e⟩
    obtain ⟨j, hj, hu, rfl⟩ := mem_liveL.1 hx
    rw [hi.sl j hj, beq_iff_eq] at e
    have : j = k := by omega
    exact this ▸ hu
  · intro hu
    exact ⟨s.E k, mem_liveL.2 ⟨k, hk, hu, rfl⟩, by rw [hi.sl k hk]; simp⟩
theorem count_two (L : List Int) : ∀ n : Nat, L.Nodup → (∀ x ∈ L, 0 ≤ x ∧ x < n) → ((List.range n).filter fun k : Nat => !decide ((k : Int) ∈ L)).length + L.length = n
  | 0, _, h => by
    have : L = [] := List.eq_nil_iff_forall_not_mem.2 fun x hx => by have := h x hx; omega
    subst this
    rfl
  | n + 1, hn, h => by
    rw [List.range_succ, List.filter_append, List.length_append]
    by_cases hm : (n : Int) ∈ L
    · have hp := List.perm_cons_erase hm
      have ih := count_two (L.erase n) n (hn.erase _) (fun x hx => by
        have h1 := h x (List.mem_of_mem_erase hx)
        have h2 : x ≠ n := fun e => by rw [e] at hx; exact (hn.not_mem_erase) hx
        omega)
      have e : ((List.range n).filter fun k : Nat => !decide ((k : Int) ∈ L)) = (List.range n).filter fun k : Nat => !decide ((k : Int) ∈ L.erase n) := by
        refine List.filter_congr fun k hk => ?_
        have hk := List.mem_range.1 hk
        congr 1
        rw [decide_eq_decide, List.mem_erase_of_ne (by omega)]
      rw [e]
      have hl := List.length_erase_of_mem hm
      have hpos : 0 < L.length := List.length_pos_of_mem hm
      simp [hm]
      omega
    · have ih := count_two L n hn (fun x hx => by
        have h1 := h x hx
        have h2 : x ≠ n := fun e => hm (e ▸ hx)
        omega)
      simp [hm]
      omega
theorem live_free (hi : TI n s) : (liveL n s).length + s.L.length = n := by
  have h := count_two s.L n hi.nd hi.rng
  refine Eq.trans ?_ h
  unfold liveL entsOf allL
  rw [List.length_map]
  congr 2
  refine List.filter_congr fun k hk => ?_
  have := hi.used k (List.mem_range.1 hk)
  rw [Bool.and_true, Bool.eq_iff_iff, this]
  simp
theorem any_live {x : Slt} (hm : x ∈ liveL n s) : (liveL n s).any (fun y => entB y x) = true := by
  rw [List.any_eq_true]
  refine ⟨x, hm, ?_⟩
  unfold entB
  simp [tupB_self]
end
theorem any_take {α : Type} (L : List α) (p : α → Bool) {j : Nat} (hj : j < L.length) : (L.take (j + 1)).any p = ((L.take j).any p || p L[j]) := by
  rw [List.take_succ_eq_append_getElem hj, List.any_append]
  simp
end Go.Proofs.YtmkknjhalcocmaaGreat

namespace Go.Proofs.YtmkknjhalcocmaaGreat
open Go Go.RowKit Go.Deep Go.Maps Go.ChangeMaps

/-- An entry laid among others, by its slot. -/
def putL (L : List Slt) (x : Slt) : List Slt := L.filter (fun y => decide (y.sl < x.sl)) ++ x :: L.filter (fun y => decide (x.sl < y.sl))
/-- A slot's entry goes. -/
def delL (L : List Slt) (i : Int) : List Slt := L.filter fun y => !(y.sl == i)
def liveE (E : Nat → Slt) (n : Nat) : List Slt := entsOf E (allL E (fun _ => true) n)
section
variable {E : Nat → Slt} {n : Nat} {s : TSt}
theorem liveE_succ (E : Nat → Slt) (m : Nat) : liveE E (m + 1) = if (E m).used = true then liveE E m ++ [E m] else liveE E m := by
  unfold liveE entsOf
  rw [allL_succ, Bool.and_true]
  split
  · rw [List.map_append]
    rfl
  · rfl
theorem liveE_zero (E : Nat → Slt) : liveE E 0 = [] := rfl
theorem liveE_rng (m : Nat) (h : ∀ k, k < m → (E k).sl = k) {y : Slt} (hy : y ∈ liveE E m) : 0 ≤ y.sl ∧ y.sl < m ∧ y.used = true ∧ E y.sl.toNat = y := by
  unfold liveE entsOf at hy
  obtain ⟨k, hk, rfl⟩ := List.mem_map.1 hy
  have h1 := allL_lt hk
  unfold allL at hk
  have h2 := (List.mem_filter.1 hk).2
  rw [Bool.and_true] at h2
  rw [h k h1]
  exact ⟨by omega, by omega, h2, by rw [Int.toNat_natCast]⟩
theorem liveE_sorted : ∀ (m : Nat), (∀ k, k < m → (E k).sl = k) → (liveE E m).Pairwise fun x y => x.sl < y.sl
  | 0, _ => List.Pairwise.nil
  | m + 1, h => by
    rw [liveE_succ]
    have ih := liveE_sorted m fun k hk => h k (by omega)
    split
    · refine List.pairwise_append.2 ⟨ih, by simp, fun x hx y hy => ?_⟩
      rw [List.mem_singleton] at hy
      subst hy
      rw [h m (by omega)]
      exact (liveE_rng m (fun k hk => h k (by omega)) hx).2.1
    · exact ih
theorem liveE_congr {E' : Nat → Slt} : ∀ (m : Nat), (∀ k, k < m → E' k = E k) → liveE E' m = liveE E m
  | 0, _ => rfl
  | m + 1, h => by rw [liveE_succ, liveE_succ, liveE_congr m fun k hk => h k (by omega), h m (by omega)]
theorem liveE_put {i : Nat} {x : Slt} (hx : x.used = true) (hs : x.sl = i) : ∀ (m : Nat), (∀ k, k < m → (E k).sl = k) → liveE (updE E i x) m = if i < m then putL (liveE E m) x else liveE E m
  | 0, _ => by rw [if_neg (by omega)]; rfl
  | m + 1, h => by
    have ih := liveE_put (i := i) hx hs m fun k hk => h k (by omega)
    rw [liveE_succ, ih]
    rcases Nat.lt_trichotomy m i with hm | rfl | hm
    · rw [if_neg (show ¬ i < m by omega), if_neg (show ¬ i < m + 1 by omega), updE_ne E x (show m ≠ i by omega), liveE_succ]
    · rw [if_neg (show ¬ m < m by omega), if_pos (show m < m + 1 by omega), updE_self, if_pos hx]
      have h1 : ∀ y ∈ liveE E m, y.sl < x.sl := fun y hy => by rw [hs]; exact (liveE_rng m (fun k hk => h k (by omega)) hy).2.1
      have h2 : (liveE E m).filter (fun y => decide (y.sl < x.sl)) = liveE E m := List.filter_eq_self.2 fun y hy => by simpa using h1 y hy
      have h3 : (liveE E m).filter (fun y => decide (x.sl < y.sl)) = [] := List.filter_eq_nil_iff.2 fun y hy => by have := h1 y hy; simp; omega
      have h4 := h m (by omega)
      unfold putL
      rw [liveE_succ]
      split
      · rw [List.filter_append, List.filter_append, h2, h3, List.filter_cons_of_neg (by simp; omega), List.filter_cons_of_neg (by simp; omega)]
        simp
      · rw [h2, h3]
    · have h4 := h m (by omega)
      rw [if_pos hm, if_pos (show i < m + 1 by omega), updE_ne E x (show m ≠ i by omega), liveE_succ]
      split
      · unfold putL
        rw [List.filter_append, List.filter_append, List.filter_cons_of_neg (by simp; omega), List.filter_cons_of_pos (by simp; omega)]
        simp
      · rfl
theorem liveE_del {i : Nat} {x : Slt} (hx : x.used = false) : ∀ (m : Nat), (∀ k, k < m → (E k).sl = k) → liveE (updE E i x) m = delL (liveE E m) i
  | 0, _ => rfl
  | m + 1, h => by
    have ih := liveE_del (i := i) hx m fun k hk => h k (by omega)
    have h4 := h m (by omega)
    rw [liveE_succ, ih, liveE_succ]
    by_cases e : m = i
    · subst e
      rw [updE_self, if_neg (by rw [hx]; decide)]
      unfold delL
      split
      · rw [List.filter_append, List.filter_cons_of_neg (by simp [h4])]
        simp
      · rfl
    · rw [updE_ne E x e]
      unfold delL
      split
      · rw [List.filter_append, List.filter_cons_of_pos (by simp [h4]; omega)]
        rfl
      · rfl
/-- Where the walk over the entries stops. -/
theorem putL_at {L : List Slt} (hL : L.Pairwise fun x y => x.sl < y.sl) (x : Slt) (k : Nat) (hk : k ≤ L.length) (h1 : ∀ j (hj : j < L.length), j < k → L[j].sl < x.sl) (h2 : ∀ h : k < L.length, x.sl ≤ L[k].sl) :
    putL L x = L.take k ++ x :: L.drop (if ∃ h : k < L.length, L[k].sl = x.sl then k + 1 else k) := by
  have e := List.take_append_drop k L
  have a1 : ∀ y ∈ L.take k, y.sl < x.sl := fun y hy => by
    obtain ⟨j, hj, rfl⟩ := List.mem_iff_getElem.1 hy
    rw [List.length_take] at hj
    rw [List.getElem_take]
    exact h1 j (by omega) (by omega)
  have f1 : (L.take k).filter (fun y => decide (y.sl < x.sl)) = L.take k := List.filter_eq_self.2 fun y hy => by simpa using a1 y hy
  have f2 : (L.take k).filter (fun y => decide (x.sl < y.sl)) = [] := List.filter_eq_nil_iff.2 fun y hy => by have := a1 y hy; simp; omega
  have fA : L.filter (fun y => decide (y.sl < x.sl)) = (L.take k).filter (fun y => decide (y.sl < x.sl)) ++ (L.drop k).filter (fun y => decide (y.sl < x.sl)) := by rw [← List.filter_append, e]
  have fB : L.filter (fun y => decide (x.sl < y.sl)) = (L.take k).filter (fun y => decide (x.sl < y.sl)) ++ (L.drop k).filter (fun y => decide (x.sl < y.sl)) := by rw [← List.filter_append, e]
  unfold putL
  rw [fA, fB, f1, f2]
  by_cases hlt : k < L.length
  · have hd : L.drop k = L[k] :: L.drop (k + 1) := List.drop_eq_getElem_cons hlt
    have hge := h2 hlt
    have hp : ∀ y ∈ L.drop (k + 1), L[k].sl < y.sl := by
      have hq : (L.drop k).Pairwise fun x y => x.sl < y.sl := hL.sublist (List.drop_sublist _ _)
      rw [hd] at hq
      exact (List.pairwise_cons.1 hq).1
    have f3 : (L.drop (k + 1)).filter (fun y => decide (y.sl < x.sl)) = [] := List.filter_eq_nil_iff.2 fun y hy => by have := hp y hy; simp; omega
    have f4 : (L.drop (k + 1)).filter (fun y => decide (x.sl < y.sl)) = L.drop (k + 1) := List.filter_eq_self.2 fun y hy => by have := hp y hy; simp; omega
    by_cases he : L[k].sl = x.sl
    · rw [if_pos ⟨hlt, he⟩, hd, List.filter_cons_of_neg (by simp; omega), List.filter_cons_of_neg (by simp; omega), f3, f4]
      simp
    · rw [if_neg (fun h => he h.2), hd, List.filter_cons_of_neg (by simp; omega), List.filter_cons_of_pos (by simp; omega), f3, f4]
      simp
  · have hd : L.drop k = [] := List.drop_eq_nil_iff.2 (by omega)
    rw [if_neg (fun h => hlt h.1), hd]
    simp
theorem liveL_eq : liveL n s = liveE s.E n := rfl
/-- A used slot's entry among the live ones. -/
theorem live_idx (h : ∀ k, k < n → (E k).sl = k) {i : Nat} (hi : i < n) (hu : (E i).used = true) : ∃ j, ∃ hj : j < (liveE E n).length, (liveE E n)[j] = E i ∧ ∀ k (hk : k < (liveE E n).length), k < j → (liveE E n)[k].sl ≠ i := by
  have hm : E i ∈ liveE E n := by
    unfold liveE entsOf allL
    exact List.mem_map.2 ⟨i, List.mem_filter.2 ⟨List.mem_range.2 hi, by rw [Bool.and_true]; exact hu⟩, rfl⟩
  obtain ⟨j, hj, e⟩ := List.mem_iff_getElem.1 hm
  refine ⟨j, hj, e, fun k hk hkj => ?_⟩
  have := List.pairwise_iff_getElem.1 (liveE_sorted n h) k j hk hj hkj
  rw [e, h i hi] at this
  omega
theorem live_none (h : ∀ k, k < n → (E k).sl = k) {i : Int} (hi : ¬ (0 ≤ i ∧ i < n ∧ (E i.toNat).used = true)) {y : Slt} (hy : y ∈ liveE E n) : y.sl ≠ i := fun e => by
  obtain ⟨a, b, c, d⟩ := liveE_rng n h hy
  rw [e] at a b d
  exact hi ⟨a, b, by rw [d]; exact c⟩
theorem liveE_len (E : Nat → Slt) : ∀ m : Nat, (liveE E m).length ≤ m
  | 0 => Nat.le_refl _
  | m + 1 => by
    have ih := liveE_len E m
    rw [liveE_succ]
    split
    · rw [List.length_append]
      simp
      omega
    · omega
end
end Go.Proofs.YtmkknjhalcocmaaGreat
