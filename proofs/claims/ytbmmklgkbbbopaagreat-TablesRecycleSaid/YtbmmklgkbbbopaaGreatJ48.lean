/- tables: what is known of a connection that was opened, in plain words. tables: the law TablesRecycle, called: where it has nothing to do. tables: the law TablesRecycle, called. tables: the law TablesRecycle, called: a step that opens. -/
import Derived.Test.YtbmmklgkbbbopaaGreatJ44
import Derived.Test.YtbmmklgkbbbopaaGreatJ43
import Derived.Deep.CutRange
import Derived.Deep.CutBlock
import Derived.Deep.LoopGhost
import Derived.Test.YtbmmklgkbbbopaaGreatJ4
import Derived.Maps.RangeWalk
import Derived.Test.YtbmmklgkbbbopaaGreatJ46
namespace Go.Proofs.YtbmmklgkbbbopaaGreat
open Go Go.RowKit Go.Deep Go.Maps Go.ChangeMaps

/-- A step of a part: generations grow by one at most; where one stays, a connection stays. -/
def StepG (n : Nat) (s s' : TSt) : Prop := ∀ k : Nat, k < n → (s.E k).gen ≤ (s'.E k).gen ∧ (s'.E k).gen ≤ (s.E k).gen + 1 ∧ ((s'.E k).gen = (s.E k).gen → (s.E k).used = true → (s'.E k).used = true ∧ (s'.E k).t = (s.E k).t ∧ (s'.E k).bk = (s.E k).bk)
section
variable {n : Nat} {s s' : TSt} {r : TRule} {t : Tup}
theorem StepG.of_eq (h : s'.E = s.E) : StepG n s s' := fun k _ => by
  rw [h]
  exact ⟨Int.le_refl _, by omega, fun _ hu => ⟨hu, rfl, rfl⟩⟩
theorem stepG_of (hR : StepR n s s') (hk : ∀ k : Nat, k < n → (s.E k).used = true → (s'.E k).used = true → (s'.E k).t = (s.E k).t ∧ (s'.E k).bk = (s.E k).bk) (hg : ∀ k : Nat, k < n → 0 ≤ (s.E k).gen ∧ (s.E k).gen ≤ 1000) : StepG n s s' := fun k hkn => by
  have h1 := hR.1 k hkn
  have h2 := hg k hkn
  cases hu : (s.E k).used
  · rw [hu] at h1
    have h3 : (s'.E k).gen = (s.E k).gen := h1
    exact ⟨by omega, by omega, fun _ e => (by cases e)⟩
  · cases hu2 : (s'.E k).used
    · rw [hu, hu2] at h1
      have h3 : (s'.E k).gen = IntKind.u64.wrap ((s.E k).gen + 1) := h1
      have h4 : IntKind.u64.wrap ((s.E k).gen + 1) = (s.E k).gen + 1 := by
        simp [IntKind.wrap, IntKind.bits, IntKind.signed]
        omega
      rw [h4] at h3
      exact ⟨by omega, by omega, fun e => by omega⟩
    · rw [hu, hu2] at h1
      have h3 : (s'.E k).gen = (s.E k).gen := h1
      exact ⟨by omega, by omega, fun _ _ => ⟨rfl, hk k hkn hu hu2⟩⟩
theorem KeepE.two (h : KeepE n s s') : ∀ k : Nat, k < n → (s.E k).used = true → (s'.E k).used = true → (s'.E k).t = (s.E k).t ∧ (s'.E k).bk = (s.E k).bk := fun k hk _ hu => (h k hk hu).2
end
/-- What is known of a connection that was opened. -/
structure Hist (r : TRule) (n : Nat) (S : Nat → TSt) (x : Slt) (ck : Int) : Prop where
  sl : ∃ c : Nat, x.sl = c ∧ c < n
  g0 : 0 ≤ x.gen ∧ x.gen ≤ 1000
  ck : ckOf r x = ck
  le : x.gen ≤ ((S (pIx r x.t)).E x.sl.toNat).gen
  eq : ((S (pIx r x.t)).E x.sl.toNat).gen = x.gen → ((S (pIx r x.t)).E x.sl.toNat).used = true ∧ ((S (pIx r x.t)).E x.sl.toNat).t = x.t ∧ ((S (pIx r x.t)).E x.sl.toNat).bk = x.bk
/-- Tables, and what was opened in them: g bounds the generations. -/
structure HI (r : TRule) (p n : Nat) (S : Nat → TSt) (b g : Int) (O : List Slt) (cs : List Int) : Prop where
  li : LI r p n S b
  gb : ∀ i, i < p → ∀ k : Nat, k < n → ((S i).E k).gen ≤ g
  len : O.length = cs.length
  hs : ∀ m (h : m < O.length), Hist r n S O[m] (cs.getD m 0)
section
variable {r : TRule} {p n : Nat} {S S' : Nat → TSt} {b b' g : Int} {O : List Slt} {cs : List Int} {t : Tup} {x : Slt} {ck : Int}
theorem Hist.step (h : Hist r n S x ck) (hS : StepG n (S (pIx r x.t)) (S' (pIx r x.t))) : Hist r n S' x ck := by
  obtain ⟨⟨c, hc, hcn⟩, h0, h1, h2, h3⟩ := h
  have e : x.sl.toNat = c := by omega
  rw [e] at h2 h3
  obtain ⟨k1, k2, k3⟩ := hS c hcn
  refine ⟨⟨c, hc, hcn⟩, h0, h1, by rw [e]; omega, fun e2 => ?_⟩
  rw [e] at e2 ⊢
  have e3 : ((S' (pIx r x.t)).E c).gen = ((S (pIx r x.t)).E c).gen := by omega
  obtain ⟨a1, a2, a3⟩ := h3 (by omega)
  obtain ⟨b1, b2, b3⟩ := k3 e3 a1
  exact ⟨b1, b2.trans a2, b3.trans a3⟩
theorem HI.new (r : TRule) (p n : Nat) : HI r p n (fun _ => sT0 n) 0 0 [] [] :=
  ⟨LI.new r p n, fun _ _ _ _ => Int.le_refl _, rfl, fun _m h => absurd h (Nat.not_lt_zero _)⟩
theorem HI.all (h : HI r p n S b g O cs) (hl : LI r p n S' b') (hS : ∀ i, StepG n (S i) (S' i)) : HI r p n S' b' (g + 1) O cs :=
  ⟨hl, fun i hi k hk => by have := (hS i k hk).2.1; have := h.gb i hi k hk; omega, h.len, fun m hm => (h.hs m hm).step (hS _)⟩
theorem HI.same (h : HI r p n S b g O cs) (hl : LI r p n S' b') (hE : ∀ i, (S' i).E = (S i).E) : HI r p n S' b' g O cs :=
  ⟨hl, fun i hi k hk => by rw [hE i]; exact h.gb i hi k hk, h.len, fun m hm => (h.hs m hm).step (StepG.of_eq (hE _))⟩
theorem HI.mono {g' : Int} (h : HI r p n S b g O cs) (hb : b ≤ b') (hg : g ≤ g') : HI r p n S b' g' O cs :=
  ⟨h.li.mono hb, fun i hi k hk => by have := h.gb i hi k hk; omega, h.len, h.hs⟩
theorem updS_step {i : Nat} {s' : TSt} (h : StepG n (S i) s') : ∀ j, StepG n (S j) (updS S i s' j) := fun j => by
  by_cases e : j = i
  · subst e
    rw [updS_self]
    exact h
  · rw [updS_ne _ _ e]
    exact StepG.of_eq rfl
theorem HI.gen (h : HI r p n S b g O cs) (hg : g ≤ 1000) {i : Nat} (hi : i < p) : ∀ k : Nat, k < n → 0 ≤ ((S i).E k).gen ∧ ((S i).E k).gen ≤ 1000 := fun k hk => ⟨((h.li.ti i hi).gr k hk).1, by have := h.gb i hi k hk; omega⟩
theorem HI.touch (h : HI r p n S b g O cs) (hb : b ≤ 900) (hg : g ≤ 1000) (hp : pIx r t < p) (k fl : Int) : HI r p n (updS S (pIx r t) (touchSC r n (S (pIx r t)) t k fl)) (b + 2) (g + 1) O cs := by
  refine h.all (h.li.touch (by omega) hp k fl) (updS_step ?_)
  have hgn := h.gen hg hp
  have hl := h.li.lk _ hp
  have hl2 := findSC_lk (r := r) (n := n) (s := S (pIx r t)) (by omega) t k
  have hE := (findSC_eq (r := r) (n := n) (S (pIx r t)) t k).1
  unfold touchSC
  split
  · have := stepG_of (stepR_touch (n := n) (c := r.cfg) (s := findSC r n (S (pIx r t)) t k) (by omega) (findVC r n (S (pIx r t)) t k).sl fl) (KeepE.two (keepE_touch _ _)) (by rw [hE]; exact hgn)
    intro j hj
    have h2 := this j hj
    rw [hE] at h2
    exact h2
  · exact StepG.of_eq hE
theorem HI.go (h : HI r p n S b g O cs) (hg : g ≤ 1000) {nw : Int} {SS : Nat → List Int} (hS : ∀ i, i < p → GoS r.G (S i).now nw (S i).M (SS i)) (hpx : ∀ t, pIx r t < p) : HI r p n (fun i => goTab n (S i) nw (SS i)) b (g + 1) O cs := by
  have hst : ∀ i, i < p → StepG n (S i) (goTab n (S i) nw (SS i)) := fun i hi => stepG_of (stepR_go (h.li.ti i hi) (hS i hi)) (KeepE.two (keepE_go (h.li.ti i hi) (hS i hi))) (h.gen hg hi)
  exact ⟨h.li.go hS, fun i hi k hk => by have := (hst i hi k hk).2.1; have := h.gb i hi k hk; omega, h.len, fun m hm => (h.hs m hm).step (hst _ (hpx _))⟩
theorem HI.drop (h : HI r p n S b g O cs) (hg : g ≤ 1000) (bk : Int) (hpx : ∀ t, pIx r t < p) : HI r p n (fun i => dropSC n bk (S i)) b (g + 1) O cs := by
  have hst : ∀ i, i < p → StepG n (S i) (dropSC n bk (S i)) := fun i hi => stepG_of (stepR_drop (h.li.ti i hi) _) (KeepE.two (keepE_drop (h.li.ti i hi) bk)) (h.gen hg hi)
  exact ⟨h.li.drop bk, fun i hi k hk => by have := (hst i hi k hk).2.1; have := h.gb i hi k hk; omega, h.len, fun m hm => (h.hs m hm).step (hst _ (hpx _))⟩
theorem stepG_open (hr : ruleOk r = true) (hn : n = 2 ^ r.sl.toNat) {s : TSt} (hi : TI n s) (hl : 0 ≤ s.lk ∧ s.lk ≤ 1000) (hg : ∀ k : Nat, k < n → 0 ≤ (s.E k).gen ∧ (s.E k).gen ≤ 1000) (bk fl : Int) : StepG n s (openS r.cfg n s t bk fl) := by
  by_cases h0 : openE s t bk fl = 0
  · obtain ⟨k, c, -, -, -, -, hc, hnu, hE, -, -, -, -, -⟩ := open_found hr hn hi t bk fl h0
    refine stepG_of (stepR_open hi hl t bk fl) (fun j hj hu _ => ?_) hg
    have e : j ≠ c := fun e => by rw [e, hnu] at hu; cases hu
    rw [hE, updE_ne _ _ e]
    exact ⟨rfl, rfl⟩
  · rw [open_no h0]
    exact StepG.of_eq rfl
theorem HI.open (h : HI r p n S b g O cs) (hr : ruleOk r = true) (hn : n = 2 ^ r.sl.toNat) (hb : b ≤ 900) (hg : g ≤ 1000) (hp : pIx r t < p) (bk fl : Int) : HI r p n (updS S (pIx r t) (openS r.cfg n (S (pIx r t)) t bk fl)) (b + 1) (g + 1) O cs := by
  have hl := h.li.lk _ hp
  exact h.all (h.li.open hr hn (by omega) hp bk fl) (updS_step (stepG_open hr hn (h.li.ti _ hp) (by omega) (h.gen hg hp) bk fl))
/-- Who is opened is known. -/
theorem HI.opened (h : HI r p n S b g O cs) (hr : ruleOk r = true) (hn : n = 2 ^ r.sl.toNat) (hb : b ≤ 900) (hg : g ≤ 1000) (hp : pIx r t < p) (bk fl : Int) (h0 : openE (S (pIx r t)) t bk fl = 0) :
    HI r p n (updS S (pIx r t) (openS r.cfg n (S (pIx r t)) t bk fl)) (b + 1) (g + 1) (O ++ [openV r.cfg (S (pIx r t)) t bk fl]) (cs ++ [openCk r (S (pIx r t)) t bk fl]) := by
  have h1 := h.open hr hn hb hg hp bk fl
  obtain ⟨k, c, hck, -, -, -, hc, hnu, hE, ht, hbk, hsl, hgn, hu⟩ := open_found hr hn (h.li.ti _ hp) t bk fl h0
  refine ⟨h1.li, h1.gb, by simp [h.len], fun m hm => ?_⟩
  by_cases hml : m < O.length
  · have e1 : (O ++ [openV r.cfg (S (pIx r t)) t bk fl])[m] = O[m] := List.getElem_append_left hml
    have e2 : (cs ++ [openCk r (S (pIx r t)) t bk fl]).getD m 0 = cs.getD m 0 := by
      rw [List.getD_eq_getElem?_getD, List.getD_eq_getElem?_getD, List.getElem?_append_left (by have := h.len; omega)]
    rw [e1, e2]
    exact h1.hs m hml
  · obtain rfl : m = O.length := by simp at hm; omega
    have e1 : (O ++ [openV r.cfg (S (pIx r t)) t bk fl])[O.length]'hm = openV r.cfg (S (pIx r t)) t bk fl := by simp
    have e2 : (cs ++ [openCk r (S (pIx r t)) t bk fl]).getD O.length 0 = openCk r (S (pIx r t)) t bk fl := by
      rw [h.len]
      simp
    rw [e1, e2]
    have hgc := h.gen hg hp c hc
    have hEc : ((updS S (pIx r t) (openS r.cfg n (S (pIx r t)) t bk fl) (pIx r t)).E c) = openV r.cfg (S (pIx r t)) t bk fl := by rw [updS_self, hE, updE_self]
    refine ⟨⟨c, hsl, hc⟩, by omega, ?_, ?_, fun _ => ?_⟩
    · unfold openCk
      rw [if_pos h0]
      rfl
    · rw [ht, hsl, Int.toNat_natCast, hEc]
      exact Int.le_refl _
    · rw [ht, hsl, Int.toNat_natCast, hEc]
      exact ⟨hu, ht, rfl⟩
/-- Is a connection that was opened live still? -/
def isG (L : List Slt) (x : Slt) : Bool := L.any fun y => tupB y.t x.t && (y.sl == x.sl && y.gen == x.gen)
theorem isG_iff (h : HI r p n S b g O cs) {m : Nat} (hm : m < O.length) (hpx : ∀ t, pIx r t < p) : isG (entsL n p S) O[m] = true ↔ ((S (pIx r O[m].t)).E O[m].sl.toNat).gen = O[m].gen := by
  obtain ⟨⟨c, hc, hcn⟩, h0, h1, h2, h3⟩ := h.hs m hm
  generalize O[m] = x at *
  rw [hc, Int.toNat_natCast] at h2 h3
  rw [hc, Int.toNat_natCast]
  unfold isG
  rw [List.any_eq_true]
  constructor
  · rintro ⟨y, hy, e⟩
    obtain ⟨i, hi, j, hj, hu, rfl⟩ := mem_entsL.1 hy
    rw [Bool.and_eq_true, Bool.and_eq_true, tupB_iff, beq_iff_eq, beq_iff_eq, hc, (h.li.ti i hi).sl j hj] at e
    obtain ⟨e1, e2, e3⟩ := e
    have hi2 := h.li.pt i hi j hj hu
    rw [e1] at hi2
    obtain rfl : j = c := by omega
    rw [hi2]
    exact e3
  · intro e
    obtain ⟨a1, a2, a3⟩ := h3 e
    refine ⟨_, mem_entsL.2 ⟨_, hpx x.t, c, hcn, a1, rfl⟩, ?_⟩
    rw [Bool.and_eq_true, Bool.and_eq_true, tupB_iff, beq_iff_eq, beq_iff_eq, hc, (h.li.ti _ (hpx _)).sl c hcn]
    exact ⟨a2, rfl, e⟩
/-- What a cookie of a connection that was opened finds at the end. -/
theorem hist_end (h : HI r p n S b g O cs) (hr : ruleOk r = true) (hn : n = 2 ^ r.sl.toNat) {m : Nat} (hm : m < O.length) (hpx : ∀ t, pIx r t < p) {ck : Nat} (hck : cs.getD m 0 = ck) (hk : ck < 18446744073709551616) :
    (isG (entsL n p S) O[m] = true → findOkC r n (S (pIx r O[m].t)) O[m].t ck = true) ∧
    (findOkC r n (S (pIx r O[m].t)) O[m].t ck = true → (findVC r n (S (pIx r O[m].t)) O[m].t ck).t = O[m].t ∧ (findVC r n (S (pIx r O[m].t)) O[m].t ck).sl = O[m].sl ∧ O[m].gen ≤ (findVC r n (S (pIx r O[m].t)) O[m].t ck).gen ∧ (findVC r n (S (pIx r O[m].t)) O[m].t ck).gen ≤ g ∧ ((findVC r n (S (pIx r O[m].t)) O[m].t ck).gen - O[m].gen) % (2 ^ r.gn.toNat : Nat) = 0 ∧
      ((findVC r n (S (pIx r O[m].t)) O[m].t ck).gen == O[m].gen) = isG (entsL n p S) O[m] ∧ (isG (entsL n p S) O[m] = true → (findVC r n (S (pIx r O[m].t)) O[m].t ck).bk = O[m].bk)) := by
  have hG := isG_iff h hm hpx
  obtain ⟨⟨c, hc, hcn⟩, h0, h1, h2, h3⟩ := h.hs m hm
  generalize O[m] = x at *
  rw [hc, Int.toNat_natCast] at h2 h3 hG
  have hti := h.li.ti _ (hpx x.t)
  have hgr := hti.gr c hcn
  have hgb := h.gb _ (hpx x.t) c hcn
  have hl := ruleOk_lay hr
  rw [hck] at h1
  refine ⟨fun e => ?_, fun e => ?_⟩
  · have e2 := hG.1 e
    obtain ⟨a1, a2, a3⟩ := h3 e2
    have e3 : ckOf r ((S (pIx r x.t)).E c) = ck := by
      rw [← h1]
      unfold ckOf
      rw [a2, e2, hti.sl c hcn, hc]
    have := (findC_at hr hn hti hk hcn a1 e3).1
    rwa [a2] at this
  · obtain ⟨c', hc', hu', ht', hck', hv'⟩ := findC_of hr hn hti hk e
    have hx := h1
    unfold ckOf at hx
    rw [hc] at hx
    obtain ⟨-, k2, k3⟩ := (cook_iff hl (hn ▸ hcn) (by omega) hk).1 hx
    unfold ckOf at hck'
    rw [ht', hti.sl c' hc'] at hck'
    obtain ⟨-, l2, l3⟩ := (cook_iff hl (hn ▸ hc') (hti.gr c' hc') hk).1 hck'
    obtain rfl : c' = c := by have := k2.symm.trans l2; omega
    have hmod := k3.symm.trans l3
    obtain ⟨a, ha⟩ : ∃ a : Nat, x.gen = a := ⟨x.gen.toNat, by omega⟩
    obtain ⟨d, hd⟩ : ∃ d : Nat, ((S (pIx r x.t)).E c').gen = d := ⟨((S (pIx r x.t)).E c').gen.toNat, by omega⟩
    rw [hv']
    refine ⟨ht', by rw [hti.sl c' hc', hc], h2, hgb, ?_, ?_, fun e2 => (h3 (hG.1 e2)).2.2⟩
    · rw [ha, hd, Int.toNat_natCast, Int.toNat_natCast] at hmod
      rw [hd, ha]
      have hm2 : a % 2 ^ r.gn.toNat = d % 2 ^ r.gn.toNat := by exact_mod_cast hmod
      have hle : a ≤ d := by omega
      have : (d - a) % 2 ^ r.gn.toNat = 0 := (Nat.sub_mod_eq_zero_of_mod_eq hm2.symm)
      have e3 : ((d : Int) - (a : Int)) = ((d - a : Nat) : Int) := by omega
      rw [e3]
      exact_mod_cast this
    · rw [Bool.eq_iff_iff, beq_iff_eq, hG]
end
end Go.Proofs.YtbmmklgkbbbopaaGreat

namespace Go.Proofs.YtbmmklgkbbbopaaGreat
open Go Go.RowKit Go.Deep Go.Maps Go.ChangeMaps

/-- A law's blocks that are not the tables': its rule, and what it keeps. -/
abbrev K22 (rb : Nat) (A A2 : Option Addr) : Nat → Prop := fun b => b = rb ∨ InB A b ∨ InB A2 b
set_option maxRecDepth 100000 in
set_option maxHeartbeats 64000000 in
theorem tablesRecycle_no (r : TRule) (l : List T20) (B : Option Addr) (d : Nat) (w : World) (hno : ruleOk r = false ∨ small20 r = false ∨ 30 < l.length) :
    Calls Tryz.prog 5 #[r.val, .slice B l.length d] w fun e w' => e = .returned (.bool true) ∧ Below w.heap.size w w' := by
  have RR := Lib.hid fun W => ref20_right r W
  have SM := Lib.hid fun W => ref20_small r W
  have R0 := Blk.new w 30 r.cells.toArray
  have hb0 : Below w.heap.size w (w.alloc (.cells r.cells.toArray 30)) := below_alloc (Below.refl _ _) _
  obtain ⟨y, hy⟩ : ∃ y, ruleOk r = y := ⟨_, rfl⟩
  obtain ⟨z, hz⟩ : ∃ z, small20 r = z := ⟨_, rfl⟩
  rw [hy] at RR hno
  rw [hz] at SM hno
  have RC := Lib.hid fun W (hb : Below (w.alloc (.cells r.cells.toArray 30)).heap.size (w.alloc (.cells r.cells.toArray 30)) W) => RuleAt.of (R0.call hb)
  obtain ⟨c0, c1, c2, c3, c4, c5, c6, c7, c8, c9, c10⟩ := RC.out _ (Below.refl _ _)
  obtain ⟨wd, sl, gn, ka, kb, np, a, b, c, d2, G⟩ := r
  dsimp only at *
  clear hy hz R0
  go_enter Tryz.func5, Tryz.ntmps5
  go_upto_region 1 with fail
  change Code.wp _ _ _ _ (w.alloc (.cells (TRule.cells ⟨wd, sl, gn, ka, kb, np, a, b, c, d2, G⟩).toArray 30))
  generalize w.alloc (.cells (TRule.cells ⟨wd, sl, gn, ka, kb, np, a, b, c, d2, G⟩).toArray 30) = w0 at *
  cases y
  · clear hno
    go_wp2_with (first
      | (go_at_call 6; (with_reducible refine (RR.out _).mono ?_); rintro e w1 ⟨rfl, hb1⟩)
      | (go_at_call 8; (with_reducible refine (awake20 _).mono ?_); rintro e w2 ⟨rfl, hb2⟩))
    go_ret
    exact ⟨rfl, below_chain hb2 (below_chain hb1 hb0)⟩
  · cases z
    · clear hno
      go_wp2_with (first
        | (go_at_call 6; (with_reducible refine (RR.out _).mono ?_); rintro e w1 ⟨rfl, hb1⟩; clear c0 c1 c2 c3 c4 c5 c6 c7 c8 c9 c10; obtain ⟨c0, c1, c2, c3, c4, c5, c6, c7, c8, c9, c10⟩ := RC.out _ hb1)
        | (go_at_call 7; (with_reducible refine (SM.out _).mono ?_); rintro e w3 ⟨rfl, hb3⟩)
        | (go_at_call 8; (with_reducible refine (awake20 _).mono ?_); rintro e w2 ⟨rfl, hb2⟩))
      go_ret
      exact ⟨rfl, below_chain hb2 (below_chain hb3 (below_chain hb1 hb0))⟩
    · have h30 : 30 < l.length := by
        rcases hno with h | h | h
        · cases h
        · cases h
        · exact h
      have e30 : decide ((30 : Int) < (l.length : Int)) = true := by simp; omega
      have e31 : decide (30 < l.length) = true := by simp; omega
      clear hno
      go_wp2_with (first
        | (go_at_call 6; (with_reducible refine (RR.out _).mono ?_); rintro e w1 ⟨rfl, hb1⟩; clear c0 c1 c2 c3 c4 c5 c6 c7 c8 c9 c10; obtain ⟨c0, c1, c2, c3, c4, c5, c6, c7, c8, c9, c10⟩ := RC.out _ hb1)
        | (go_at_call 7; (with_reducible refine (SM.out _).mono ?_); rintro e w3 ⟨rfl, hb3⟩)
        | (go_at_call 8; (with_reducible refine (awake20 _).mono ?_); rintro e w2 ⟨rfl, hb2⟩))
      go_ret
      exact ⟨rfl, below_chain hb2 (below_chain hb3 (below_chain hb1 hb0))⟩
end Go.Proofs.YtbmmklgkbbbopaaGreat

namespace Go.Proofs.YtbmmklgkbbbopaaGreat
open Go Go.RowKit Go.Deep Go.Maps Go.ChangeMaps

set_option maxRecDepth 100000 in
set_option maxHeartbeats 64000000 in
/-- The walk of tablesRecycle_yes, but for 3 stretches. -/
def tablesRecycle_pack : (P1 : Prop) ×' (P2 : Prop) ×' (P3 : Prop) ×' (Hid P1 → Hid P2 → Hid P3 → ∀ (r : TRule) (l : List T20) (B : Option Addr) (d : Nat) (w : World) (_hr : Reads w w.heap.size 14 B l.length (l.flatMap T20.cells)) (_hwf : ∀ s ∈ l, t20Wf s) (_hy : ruleOk r = true) (_hz : small20 r = true) (_h30 : l.length ≤ 30),
    Calls Tryz.prog 5 #[r.val, .slice B l.length d] w fun e w' => e = .returned (.bool true) ∧ Below w.heap.size w w') := by
  apply PSigma.mk
  apply PSigma.mk
  apply PSigma.mk
  · intro Q1 Q2 Q3 r l B d w hr hwf hy hz h30
    have RR := Lib.hid fun W => ref20_right r W
    have SM := Lib.hid fun W => ref20_small r W
    have R0 := Blk.new w 30 r.cells.toArray
    have hb0 : Below w.heap.size w (w.alloc (.cells r.cells.toArray 30)) := below_alloc (Below.refl _ _) _
    rw [hy] at RR
    rw [hz] at SM
    have e30 : decide ((30 : Int) < (l.length : Int)) = false := by simp; omega
    have e31 : decide (30 < l.length) = false := by simp; omega
    have OF := Lib.hid fun W => law20_of r W
    have NW := Lib.hid fun W (hb : Below w.heap.size w W) (hK : ∀ b, b = w.heap.size → b < W.heap.size) => tabsn_new (w0 := w) (w := W) (K := K22 w.heap.size none none) hy hb (fun b hb => hb.elim (hK b) (fun h => h.elim (fun h => absurd h inB_none) fun h => absurd h inB_none))
    have hlay := ruleOk_lay hy
    obtain ⟨sb, gb, hsb, hgb, hsb12, -⟩ := layOk_nat hlay
    have hsm := hz
    unfold small20 at hsm
    rw [Bool.and_eq_true, decide_eq_true_eq, decide_eq_true_eq] at hsm
    obtain ⟨p, hp⟩ : ∃ p : Nat, r.np.toNat = p := ⟨_, rfl⟩
    obtain ⟨n, hn⟩ : ∃ n : Nat, 2 ^ r.sl.toNat = n := ⟨_, rfl⟩
    rw [hp, hn] at NW
    have RC := Lib.hid fun W (hb : Below (w.alloc (.cells r.cells.toArray 30)).heap.size (w.alloc (.cells r.cells.toArray 30)) W) => RuleAt.of (R0.call hb)
    obtain ⟨c0, c1, c2, c3, c4, c5, c6, c7, c8, c9, c10⟩ := RC.out _ (Below.refl _ _)
    have hnp : r.np = (p : Int) := by
      have := hy
      unfold ruleOk at this
      simp only [Bool.and_eq_true, decide_eq_true_eq] at this
      omega
    replace hy := Lib.hid hy
    replace hr := Lib.hid hr
    replace hwf := Lib.hid hwf
    have hn8 : n ≤ 8 := by
      rw [← hn]
      have : r.sl.toNat ≤ 3 := by omega
      exact Nat.le_trans (Nat.pow_le_pow_right (by omega) this) (by decide)
    replace hn := Lib.hid hn
    clear hz hlay hgb
    obtain ⟨wd, sl, gn, ka, kb, np, a, b, c, d2, G⟩ := r
    dsimp only at *
    subst hsb
    subst hnp
    go_enter Tryz.func5, Tryz.ntmps5
    go_upto_region 1 with fail
    change Code.wp _ _ _ _ (w.alloc (.cells (TRule.cells ⟨wd, sb, gn, ka, kb, p, a, b, c, d2, G⟩).toArray 30))
    have hw0 : (w.alloc (.cells (TRule.cells ⟨wd, sb, gn, ka, kb, p, a, b, c, d2, G⟩).toArray 30)).heap.size = w.heap.size + 1 := World.size_alloc _ _
    generalize w.alloc (.cells (TRule.cells ⟨wd, sb, gn, ka, kb, p, a, b, c, d2, G⟩).toArray 30) = w0 at *
    obtain ⟨rb, hrb⟩ : ∃ r, w.heap.size = r := ⟨_, rfl⟩
    have hrw : w.heap.size ≤ rb := Nat.le_of_eq hrb
    rw [hrb] at R0 NW hw0 RC c0 c1 c2 c3 c4 c5 c6 c7 c8 c9 c10
    try rw [hrb]
    go_upto_region 4 with (first
      | (go_at_call 6; (with_reducible refine (RR.out _).mono ?_); rintro e w1 ⟨rfl, hb1⟩; clear c0 c1 c2 c3 c4 c5 c6 c7 c8 c9 c10; obtain ⟨c0, c1, c2, c3, c4, c5, c6, c7, c8, c9, c10⟩ := RC.out _ hb1)
      | (go_at_call 7; (with_reducible refine (SM.out _).mono ?_); rintro e w3 ⟨rfl, hb3⟩; clear c0 c1 c2 c3 c4 c5 c6 c7 c8 c9 c10; obtain ⟨c0, c1, c2, c3, c4, c5, c6, c7, c8, c9, c10⟩ := RC.out _ (below_chain hb3 hb1))
      | (go_at_call 10; (with_reducible refine (OF.out _).mono ?_); rintro e w4 ⟨rfl, hb4⟩)
      | (go_at_call 9; (with_reducible refine (NW.out _ (by rw [← hrb]; exact below_chain hb4 (below_chain hb3 (below_chain hb1 hb0))) (fun b hb => by have := (below_chain hb4 (below_chain hb3 hb1)).size; omega)).mono ?_); rintro e w5 ⟨g, rfl, hT0, hb5⟩))
    have hb35 := below_chain hb5 (below_chain hb4 (below_chain hb3 hb1))
    have R5 := R0.call hb35
    obtain ⟨R, hR⟩ : ∃ R : TRule, (⟨wd, sb, gn, ka, kb, p, a, b, c, d2, G⟩ : TRule) = R := ⟨_, rfl⟩
    rw [hR] at hT0 hy R5
    have hnR : n = 2 ^ R.sl.toNat := by rw [← hn.out, ← hR]
    have hnpR : R.np = (p : Int) := by rw [← hR]
    have hLI0 := HI.new R p n
    have hp1 := hT0.rng
    replace hnR := Lib.hid hnR
    replace hnpR := Lib.hid hnpR
    replace hR := Lib.hid hR
    replace hT0 := Lib.hid hT0
    replace hLI0 := Lib.hid hLI0
    clear c0 c1 c2 c3 c4 c5 c6 c7 c8 c9 c10 RR SM OF NW RC R0 hb0 hb1 hb3 hb4 hb5 hb35 hn hw0
    go_wp2_with fail
    go_loopg [7, 8, 9] l.length (fun gk cv ov iv wr => ∃ (k : Nat) (S : Nat → TSt) (A A2 : Option Addr) (q q2 : Nat) (cs : List Int) (O : List Slt), k + gk = l.length ∧ iv = .int .i64 (k : Nat) ∧ cv = .slice A cs.length q ∧ ov = .slice A2 O.length q2 ∧ OwnU wr w.heap.size A q cs ∧ OwnE wr w.heap.size A2 q2 O ∧ (∀ b, InB A b → ¬ InB A2 b) ∧ ¬ InB A rb ∧ ¬ InB A2 rb ∧ (∀ x ∈ cs, 0 ≤ x ∧ x < 18446744073709551616) ∧ cs.length ≤ k ∧ TabsN w wr g R p n S (K22 rb A A2) ∧ HI R p n S (2 * (k : Int)) (k : Int) O cs ∧ Blk wr rb 30 R.cells.toArray)
    case atStart => exact ⟨0, _, none, none, 0, 0, [], [], by omega, rfl, rfl, rfl, OwnA.nil _ _, OwnA.nil _ _, fun b hb => absurd hb inB_none, inB_none, inB_none, fun x hx => (by cases hx), Nat.le_refl _, hT0.out, hLI0.out, R5⟩
    case round =>
      obtain ⟨k, S, A, A2, q, q2, cs, O, hk, rfl, rfl, rfl, hO, hO2, hdA, hnA, hnA2, hcs, hcl, hT, hL, hRb⟩ := hrel
      clear hT0 R5
      by_cases hlt : k < l.length
      · have hlti : (k : Int) < (l.length : Int) := by omega
        obtain ⟨ad, st, rfl, hbl, hst, c0, c1, c2, c3, c4, c5, c6, c7, c8, c9, c10, c11, c12, c13⟩ := t20_at14 (hr.out.below hT.below) hlt
        have hwfs := hwf.out st (List.mem_of_getElem? hst)
        have hAl : ∀ b, InB A b ∨ InB A2 b → w.heap.size ≤ b ∧ b < wr.heap.size := fun b hb => hb.elim (fun hb => hO.block hb) fun hb => hO2.block hb
        have hrbl := hRb.lt
        have hdA' := Lib.hid hdA
        replace hT := Lib.hid hT
        replace hO := Lib.hid hO
        replace hO2 := Lib.hid hO2
        replace hRb := Lib.hid hRb
        replace hL := Lib.hid hL
        replace hwfs := Lib.hid hwfs
        replace hAl := Lib.hid hAl
        replace hcs := Lib.hid hcs
        clear hdA
        go_upto_region 12 with fail
        change Code.wp _ _ _ _ (wr.alloc (.cells st.cells.toArray 49))
        have Sb := Blk.new wr 49 st.cells.toArray
        have hba := below_alloc (Below.refl wr.heap.size wr) (.cells st.cells.toArray 49)
        have hT1 := hT.out.alloc (.cells st.cells.toArray 49)
        have hO1 := hO.out.call hba
        have hO3 := hO2.out.call hba
        have hRb1 := hRb.out.call hba
        obtain ⟨rs, hrs⟩ : ∃ r, wr.heap.size = r := ⟨_, rfl⟩
        have hz1 : (wr.alloc (.cells st.cells.toArray 49)).heap.size = rs + 1 := by rw [World.size_alloc, hrs]
        rw [hrs] at Sb hT1 hAl hrbl
        try rw [hrs]
        generalize wr.alloc (.cells st.cells.toArray 49) = w6 at *
        clear c0 c1 c2 c3 c4 c5 c6 c7 c8 c9 c10 c11 c12 c13 hT hO hO2 hRb hba hst hbl
        have s0 : w6.cell? ⟨rs, 0, none⟩ = some (.int .i64 st.kd) := Sb.cell 0
        have s1 : w6.cell? ⟨rs, 1, none⟩ = some (.int .i64 st.tu.p) := Sb.cell 1
        have s2 : w6.cell? ⟨rs, 2, none⟩ = some (.bool st.tu.v) := Sb.cell 2
        have s3 : w6.cell? ⟨rs, 3, none⟩ = some (.int .u64 st.tu.hi) := Sb.cell 3
        have s4 : w6.cell? ⟨rs, 4, none⟩ = some (.int .u64 st.tu.lo) := Sb.cell 4
        have s5 : w6.cell? ⟨rs, 5, none⟩ = some (.bool st.tu.v') := Sb.cell 5
        have s6 : w6.cell? ⟨rs, 6, none⟩ = some (.int .u64 st.tu.hi') := Sb.cell 6
        have s7 : w6.cell? ⟨rs, 7, none⟩ = some (.int .u64 st.tu.lo') := Sb.cell 7
        have s8 : w6.cell? ⟨rs, 8, none⟩ = some (.int .i64 st.tu.sp) := Sb.cell 8
        have s9 : w6.cell? ⟨rs, 9, none⟩ = some (.int .i64 st.tu.dp) := Sb.cell 9
        have s10 : w6.cell? ⟨rs, 10, none⟩ = some (.int .i64 st.n) := Sb.cell 10
        have s11 : w6.cell? ⟨rs, 11, none⟩ = some (.int .i64 st.bk) := Sb.cell 11
        have s12 : w6.cell? ⟨rs, 12, none⟩ = some (.int .u64 st.ck) := Sb.cell 12
        have s13 : w6.cell? ⟨rs, 13, none⟩ = some (.int .i64 st.pk) := Sb.cell 13
        have hpx : ∀ t, pIx R t < p := fun t => (pIx_eq R t hp1.1 hp1.2.1 hp1.2.2).2
        have hK : ∀ b, (K22 rb A A2 b ∨ b = rs) → b < w6.heap.size := fun b hb => by
          rcases hb with (hb | hb) | hb
          · omega
          · have := hAl.out b hb
            omega
          · omega
        have REL := Lib.hid fun (W : World) (S' : Nat → TSt) (hT : TabsN w W g R p n S' fun b => K22 rb A A2 b ∨ b = rs) (hc : Chg (Nk w fun b => K22 rb A A2 b ∨ b = rs) w6 W) (hL' : HI R p n S' (2 * (k : Int) + 2) ((k : Int) + 1) O cs) =>
          show OwnU W w.heap.size A q cs ∧ OwnE W w.heap.size A2 q2 O ∧ TabsN w W g R p n S' (K22 rb A A2) ∧ HI R p n S' (2 * ((k + 1 : Nat) : Int)) ((k + 1 : Nat) : Int) O cs ∧ Blk W rb 30 R.cells.toArray from
            ⟨OwnA.chg hO1 hc fun b hb e => e.2 (.inl (.inr (.inl hb))), OwnA.chg hO3 hc fun b hb e => e.2 (.inl (.inr (.inr hb))), hT.mono fun b hb => .inl hb, hL'.mono (by omega) (by omega), hRb1.chg hc fun e => e.2 (.inl (.inl rfl))⟩
        have K4 := Lib.hid (tabsn_go hT1 hK st.n hL.out.li.now)
        have K5 := Lib.hid (tabsn_drop hT1 hK st.bk)
        have hKN := Lib.hid (show OwnU w6 w.heap.size A q cs ∧ OwnE w6 w.heap.size A2 q2 O ∧ TabsN w w6 g R p n S (K22 rb A A2) ∧ HI R p n S (2 * ((k + 1 : Nat) : Int)) ((k + 1 : Nat) : Int) O cs ∧ Blk w6 rb 30 R.cells.toArray from
          ⟨hO1, hO3, hT1.mono fun b hb => .inl hb, hL.out.mono (by omega) (by omega), hRb1⟩)
        replace Sb := Lib.hid Sb
        replace hO1 := Lib.hid hO1
        replace hO3 := Lib.hid hO3
        replace hRb1 := Lib.hid hRb1
        replace hT1 := Lib.hid hT1
        replace hK := Lib.hid hK
        replace hpx := Lib.hid hpx
        obtain ⟨kd, hkd⟩ : ∃ kd, st.kd = kd := ⟨_, rfl⟩
        rw [hkd] at s0
        have hkc : kd = 0 ∨ kd = 2 ∨ kd = 3 ∨ kd = 4 ∨ ((kd == 0) = false ∧ (kd == 2) = false ∧ (kd == 3) = false ∧ (kd == 4) = false) := by
          simp only [beq_eq_false_iff_ne]
          omega
        rcases hkc with rfl | rfl | rfl | rfl | ⟨e0, e2, e3, e4⟩
        · rename_i zz0 zz1 zz2 zz3 zz4 zz5 zz6 zz7 zz8 zz9 zz10
          revert l d w h30 e30 e31 sb gb hsb12 p n hwf hn8 wd gn ka kb a b c d2 G hp hsm zz0 w0 rb hrb hrw w1 w3 w4 w5 g R hy hp1 hnR hnpR hR hLI0 zz1 zz2 gk wr u10 u11 u12 u13 u43 u44 u45 u46 u47 u48 u49 u50 u51 u52 u53 u54 u55 u56 u57 u58 u59 u60 u61 u62 u63 u64 u65 u66 u67 u68 u69 u70 u71 u72 u73 u74 u75 u76 u77 u78 u79 u80 u81 u82 u83 u84 u85 u86 u87 u88 u89 u90 u91 u92 u93 u94 u95 u96 u97 u98 u99 u100 u101 zz3 zz4 zz5 k S A A2 q q2 cs O hk hnA hnA2 hcl hlt hlti ad st hr zz6 hdA' hL hwfs hcs zz7 zz8 zz9 zz10 rs hrbl hAl hrs w6 hz1 s1 s2 s3 s4 s5 s6 s7 s8 s9 s10 s11 s12 s13 REL K4 K5 hKN Sb hO1 hO3 hRb1 hT1 hK hpx s0 hkd
          exact Q1.out
        · rename_i zz0 zz1 zz2 zz3 zz4 zz5 zz6 zz7 zz8 zz9 zz10
          revert l d w h30 e30 e31 sb gb hsb12 p n hwf hn8 wd gn ka kb a b c d2 G hp hsm zz0 w0 rb hrb hrw w1 w3 w4 w5 g R hy hp1 hnR hnpR hR hLI0 zz1 zz2 gk wr u10 u11 u12 u13 u43 u44 u45 u46 u47 u48 u49 u50 u51 u52 u53 u54 u55 u56 u57 u58 u59 u60 u61 u62 u63 u64 u65 u66 u67 u68 u69 u70 u71 u72 u73 u74 u75 u76 u77 u78 u79 u80 u81 u82 u83 u84 u85 u86 u87 u88 u89 u90 u91 u92 u93 u94 u95 u96 u97 u98 u99 u100 u101 zz3 zz4 zz5 k S A A2 q q2 cs O hk hnA hnA2 hcl hlt hlti ad st hr zz6 hdA' hL hwfs hcs zz7 zz8 zz9 zz10 rs hrbl hAl hrs w6 hz1 s1 s2 s3 s4 s5 s6 s7 s8 s9 s10 s11 s12 s13 REL K4 K5 hKN Sb hO1 hO3 hRb1 hT1 hK hpx s0 hkd
          exact Q2.out
        · go_wp2_with (go_at_call 20; (with_reducible refine K4.out.mono ?_); rintro e v2 ⟨B4, q4, SS, rfl, hS4, -, hT2, hc2⟩)
          obtain ⟨r1, r2, r3, r4, r5⟩ := REL.out _ _ hT2 hc2 ((hL.out.go (by omega) hS4 hpx.out).mono (by omega) (by omega))
          go_roundg (gk - 1)
          case measure => omega
          case rel => exact ⟨k + 1, _, A, A2, q, q2, cs, O, by omega, by go_num, rfl, rfl, r1, r2, hdA'.out, hnA, hnA2, hcs.out, by omega, r3, r4, r5⟩
        · go_wp2_with (go_at_call 23; (with_reducible refine K5.out.mono ?_); rintro e v2 ⟨B4, q4, rfl, -, hT2, hc2⟩)
          obtain ⟨r1, r2, r3, r4, r5⟩ := REL.out _ _ hT2 hc2 ((hL.out.drop (by omega) st.bk hpx.out).mono (by omega) (by omega))
          go_roundg (gk - 1)
          case measure => omega
          case rel => exact ⟨k + 1, _, A, A2, q, q2, cs, O, by omega, by go_num, rfl, rfl, r1, r2, hdA'.out, hnA, hnA2, hcs.out, by omega, r3, r4, r5⟩
        · go_wp2_with fail
          obtain ⟨r1, r2, r3, r4, r5⟩ := hKN.out
          go_roundg (gk - 1)
          case measure => omega
          case rel => exact ⟨k + 1, _, A, A2, q, q2, cs, O, by omega, by go_num, rfl, rfl, r1, r2, hdA'.out, hnA, hnA2, hcs.out, by omega, r3, r4, r5⟩
      · rename_i zz0 zz1 zz2 zz3 zz4 zz5 zz6
        revert l B d w h30 e30 e31 sb gb hsb12 p n hr hwf hn8 wd gn ka kb a b c d2 G hp hsm zz0 w0 rb hrb hrw w1 w3 w4 w5 g R hy hp1 hnR hnpR hR hLI0 zz1 zz2 gk wr u10 u11 u12 u13 u43 u44 u45 u46 u47 u48 u49 u50 u51 u52 u53 u54 u55 u56 u57 u58 u59 u60 u61 u62 u63 u64 u65 u66 u67 u68 u69 u70 u71 u72 u73 u74 u75 u76 u77 u78 u79 u80 u81 u82 u83 u84 u85 u86 u87 u88 u89 u90 u91 u92 u93 u94 u95 u96 u97 u98 u99 u100 u101 zz3 zz4 zz5 zz6 k S A A2 q q2 cs O hk hO hO2 hdA hnA hnA2 hcs hcl hT hL hRb hlt
        exact Q3.out
end Go.Proofs.YtbmmklgkbbbopaaGreat

namespace Go.Proofs.YtbmmklgkbbbopaaGreat
open Go Go.RowKit Go.Deep Go.Maps Go.ChangeMaps

set_option maxRecDepth 100000 in
set_option maxHeartbeats 64000000 in
theorem tablesRecycle_yes_arm1 : tablesRecycle_pack.1 := by
  intro l d w h30 e30 e31 sb gb hsb12 p n hwf hn8 wd gn ka kb a b c d2 G hp hsm zz0 w0 rb hrb hrw w1 w3 w4 w5 g R hy hp1 hnR hnpR hR hLI0 zz1 zz2 gk wr u10 u11 u12 u13 u43 u44 u45 u46 u47 u48 u49 u50 u51 u52 u53 u54 u55 u56 u57 u58 u59 u60 u61 u62 u63 u64 u65 u66 u67 u68 u69 u70 u71 u72 u73 u74 u75 u76 u77 u78 u79 u80 u81 u82 u83 u84 u85 u86 u87 u88 u89 u90 u91 u92 u93 u94 u95 u96 u97 u98 u99 u100 u101 zz3 zz4 zz5 k S A A2 q q2 cs O hk hnA hnA2 hcl hlt hlti ad st hr zz6 hdA' hL hwfs hcs zz7 zz8 zz9 zz10 rs hrbl hAl hrs w6 hz1 s1 s2 s3 s4 s5 s6 s7 s8 s9 s10 s11 s12 s13 REL K4 K5 hKN Sb hO1 hO3 hRb1 hT1 hK hpx s0 hkd
  have hti := hL.out.li.ti _ (hpx.out st.tu)
  have K0 := tabsn_open hT1.out hK.out st.tu st.bk st.n
  clear K4 K5 hKN
  by_cases h0 : openE (S (pIx R st.tu)) st.tu st.bk st.n = 0
  · obtain ⟨k0, c0, hck0, hk0l, -, -, -, -, -, -, -, -, -, -⟩ := open_found hy.out hnR.out hti st.tu st.bk st.n h0
    have hLI := hL.out.opened hy.out hnR.out (by omega) (by omega) (hpx.out st.tu) st.bk st.n h0
    rw [hck0] at hLI
    rw [h0, hck0] at K0
    obtain ⟨ov, hov⟩ : ∃ v, openV R.cfg (S (pIx R st.tu)) st.tu st.bk st.n = v := ⟨_, rfl⟩
    rw [hov] at K0 hLI
    obtain ⟨S', hS'⟩ : ∃ v, updS S (pIx R st.tu) (openS R.cfg n (S (pIx R st.tu)) st.tu st.bk st.n) = v := ⟨_, rfl⟩
    rw [hS'] at K0 hLI
    replace K0 := Lib.hid K0
    replace hLI := Lib.hid hLI
    clear hov hS' hck0 h0 hti
    go_upto_region 16 with (go_at_call 14; (with_reducible refine K0.out.mono ?_); rintro e v2 ⟨rfl, hT2, hc2⟩)
    change Code.wp _ _ _ _ (v2.alloc (.cells ov.entA 52))
    have hal := below_alloc (Below.refl v2.heap.size v2) (.cells ov.entA 52)
    have V := Blk.new v2 52 ov.entA
    have hT7 := (hT2.call hal).mono (K' := fun b => K22 rb A A2 b ∨ b = v2.heap.size) (fun b hb => hb.elim (fun h => .inl (.inl h)) fun e => .inr ⟨by omega, by rw [World.size_alloc]; omega⟩)
    have hc7 : Chg (Nk w fun b => K22 rb A A2 b ∨ b = rs) w6 (v2.alloc (.cells ov.entA 52)) := hc2.trans (G := fun _ => False) (Chg.of_below hal) (fun b _ h => h.elim)
    have hz7 : w6.heap.size ≤ v2.heap.size ∧ (v2.alloc (.cells ov.entA 52)).heap.size = v2.heap.size + 1 := ⟨hc2.size, World.size_alloc _ _⟩
    obtain ⟨q5, hq5⟩ : ∃ q, v2.heap.size = q := ⟨_, rfl⟩
    rw [hq5] at V hT7
    have hz8 : w6.heap.size ≤ q5 := by omega
    have hz9 : (v2.alloc (.cells ov.entA 52)).heap.size = q5 + 1 := by omega
    clear hz7
    try rw [hq5]
    generalize v2.alloc (.cells ov.entA 52) = w7 at *
    clear s0 s1 s2 s3 s4 s5 s6 s7 s8 s9 s10 s11 s12 s13 hT2 hc2 hal K0 hq5
    have hO7 := OwnA.chg hO1.out hc7 fun b hb e => e.2 (.inl (.inr (.inl hb)))
    have hP7 := OwnA.chg hO3.out hc7 fun b hb e => e.2 (.inl (.inr (.inr hb)))
    have hR7 := hRb1.out.chg hc7 fun e => e.2 (.inl (.inl rfl))
    have hA7 : ∀ b, InB A b ∨ InB A2 b → w.heap.size ≤ b ∧ b < w6.heap.size := fun b hb => by have := hAl.out b hb; omega
    have hbase : w.heap.size ≤ w7.heap.size := hT7.size
    have hOl : O.length ≤ 1000 := by have := hL.out.len; omega
    replace hT7 := Lib.hid hT7
    replace hR7 := Lib.hid hR7
    replace V := Lib.hid V
    replace hP7 := Lib.hid hP7
    replace hA7 := Lib.hid hA7
    clear hc7
    go_upto_region 17 with (at_builtin; (refine wpList_push_u64 rfl (.tmp 71) (.tmp 73) rfl w.heap.size A q cs (k0 : Int) cs.length rfl rfl hO7 (q5 + 1) hz9.symm rfl rfl (by omega) hbase ?_; intro A9 q9 w8 hO8 hP8))
    have hn8 : ∀ b, InB A9 b → InB A b ∨ w7.heap.size ≤ b := hP8.new
    have hT8 := (hT7.out.push hP8 (fun b hb => .inl (.inr (.inl hb))) (fun b hb => (hA7.out b (.inl hb)).1)).mono (K' := fun b => (K22 rb A9 A2 b ∨ b = q5)) fun b hb => by
      rcases hb with (h | h | h) | h
      · exact .inl (.inl (.inl h))
      · exact .inr h
      · exact .inl (.inl (.inr (.inr h)))
      · exact .inl (.inr h)
    have hV8 := V.out.chg hP8.chg (fun e => by have := (hA7.out _ (.inl e)).2; omega)
    have hR8 := hR7.out.chg hP8.chg hnA
    have hP9 := OwnA.chg hP7.out hP8.chg fun b hb e => hdA'.out b e hb
    have hbase8 : w.heap.size ≤ w8.heap.size := hT8.size
    have hz10 := hP8.chg.size
    obtain ⟨z8, hz11⟩ : ∃ z, w8.heap.size = z := ⟨_, rfl⟩
    have hn9 : ¬ InB A9 rb := fun e => by
      rcases hn8 _ e with h | h
      · exact hnA h
      · omega
    have hd9 : ∀ b, InB A9 b → ¬ InB A2 b := fun b hb e => by
      rcases hn8 b hb with h | h
      · exact hdA'.out b h e
      · have := (hA7.out b (.inr e)).2
        omega
    have f0 : w8.cell? ⟨q5, 0, none⟩ = some (.int .i64 ov.t.p) := hV8.cell 0
    have f1 : w8.cell? ⟨q5, 1, none⟩ = some (.bool ov.t.v) := hV8.cell 1
    have f2 : w8.cell? ⟨q5, 2, none⟩ = some (.int .u64 ov.t.hi) := hV8.cell 2
    have f3 : w8.cell? ⟨q5, 3, none⟩ = some (.int .u64 ov.t.lo) := hV8.cell 3
    have f4 : w8.cell? ⟨q5, 4, none⟩ = some (.bool ov.t.v') := hV8.cell 4
    have f5 : w8.cell? ⟨q5, 5, none⟩ = some (.int .u64 ov.t.hi') := hV8.cell 5
    have f6 : w8.cell? ⟨q5, 6, none⟩ = some (.int .u64 ov.t.lo') := hV8.cell 6
    have f7 : w8.cell? ⟨q5, 7, none⟩ = some (.int .i64 ov.t.sp) := hV8.cell 7
    have f8 : w8.cell? ⟨q5, 8, none⟩ = some (.int .i64 ov.t.dp) := hV8.cell 8
    have f9 : w8.cell? ⟨q5, 9, none⟩ = some (.int .i64 ov.bk) := hV8.cell 9
    have f10 : w8.cell? ⟨q5, 10, none⟩ = some (.int .i64 ov.st) := hV8.cell 10
    have f11 : w8.cell? ⟨q5, 11, none⟩ = some (.int .i64 ov.sl) := hV8.cell 11
    have f12 : w8.cell? ⟨q5, 12, none⟩ = some (.int .u64 ov.gen) := hV8.cell 12
    have f13 : w8.cell? ⟨q5, 13, none⟩ = some (.int .i64 ov.due) := hV8.cell 13
    replace hT8 := Lib.hid hT8
    replace hR8 := Lib.hid hR8
    replace hd9 := Lib.hid hd9
    clear hV8
    go_wp2_with (at_builtin; (refine wpList_push_ent rfl (.tmp 75) (.tmp 77) rfl w.heap.size A2 q2 O ov O.length rfl rfl hP9 z8 hz11.symm rfl rfl (by omega) hbase8 ?_; intro A7 q7 w9 hO9 hP10))
    have hn10 : ∀ b, InB A7 b → InB A2 b ∨ w8.heap.size ≤ b := hP10.new
    have hT9 := (hT8.out.push hP10 (fun b hb => .inl (.inr (.inr hb))) (fun b hb => (hA7.out b (.inr hb)).1)).mono (K' := K22 rb A9 A7) fun b hb => by
      rcases hb with h | h | h
      · exact .inl (.inl (.inl h))
      · exact .inl (.inl (.inr (.inl h)))
      · exact .inr h
    have hR9 := hR8.out.chg hP10.chg hnA2
    have hO10 := OwnA.chg hO8 hP10.chg fun b hb e => hd9.out b hb e
    have hA9l : ∀ b, InB A9 b → b < w8.heap.size := fun b hb => (hO8.block hb).2
    go_roundg (gk - 1)
    case measure => omega
    case rel => exact ⟨k + 1, S', A9, A7, q9, q7, cs ++ [(k0 : Int)], O ++ [ov], by omega, by go_num, by simp, by simp, hO10, hO9, fun b hb e => by
      rcases hn10 b e with h | h
      · exact hd9.out b hb h
      · have := hA9l b hb
        omega, hn9, fun e => by
      rcases hn10 _ e with h | h
      · exact hnA2 h
      · omega, fun x hx => by
      rcases List.mem_append.1 hx with h | h
      · exact hcs.out x h
      · obtain rfl := List.mem_singleton.1 h
        omega, by simp; omega, hT9, hLI.out.mono (by omega) (by omega), hR9⟩
  · have hLI := hL.out.open hy.out hnR.out (by omega) (by omega) (hpx.out st.tu) st.bk st.n
    rw [open_no h0, updS_same] at K0 hLI
    obtain ⟨oe, hoe⟩ : ∃ v, openE (S (pIx R st.tu)) st.tu st.bk st.n = v := ⟨_, rfl⟩
    rw [hoe] at K0 h0
    have h0b : (oe == 0) = false := by simpa using h0
    obtain ⟨ov, hov⟩ : ∃ v, openV R.cfg (S (pIx R st.tu)) st.tu st.bk st.n = v := ⟨_, rfl⟩
    obtain ⟨ock, hock⟩ : ∃ v, openCk R (S (pIx R st.tu)) st.tu st.bk st.n = v := ⟨_, rfl⟩
    rw [hov, hock] at K0
    replace K0 := Lib.hid K0
    replace hLI := Lib.hid hLI
    clear hov hock hoe h0 hti
    go_upto_region 15 with (go_at_call 14; (with_reducible refine K0.out.mono ?_); rintro e v2 ⟨rfl, hT2, hc2⟩)
    change Code.wp _ _ _ _ (v2.alloc (.cells ov.entA 52))
    have hal := below_alloc (Below.refl v2.heap.size v2) (.cells ov.entA 52)
    obtain ⟨r1, r2, r3, r4, r5⟩ := REL.out _ _ (hT2.call0 hal) (hc2.trans (G := fun _ => False) (Chg.of_below hal) (fun b _ h => h.elim)) (hLI.out.mono (by omega) (by omega))
    generalize v2.alloc (.cells ov.entA 52) = w7 at *
    clear s0 s1 s2 s3 s4 s5 s6 s7 s8 s9 s10 s11 s12 s13 hT2 hc2 hal K0
    go_wp2_with fail
    go_roundg (gk - 1)
    case measure => omega
    case rel => exact ⟨k + 1, _, A, A2, q, q2, cs, O, by omega, by go_num, rfl, rfl, r1, r2, hdA'.out, hnA, hnA2, hcs.out, by omega, r3, r4, r5⟩
end Go.Proofs.YtbmmklgkbbbopaaGreat
