/- stateful: plain: how many live connections a backend has, and loads that follow them. tables: the document's Looks, Live, free. tables: the document's Drop and Go. tables: the document's Go. -/
import Derived.Test.YtohapcacckapoaaGreatJ45
import Derived.Test.YtohapcacckapoaaGreatJ25
import Derived.Test.YtohapcacckapoaaGreatJ40
import Derived.Deep.LoopGhost
namespace Go.Proofs.YtohapcacckapoaaGreat
open Go Go.RowKit Go.Deep Go.Maps Go.ChangeMaps
def bkN (b : Int) (L : List Slt) : Nat := L.countP fun x => x.bk == b
def cR (f : Nat → Bool) (n : Nat) : Nat := (List.range n).countP f
theorem cR_succ (f : Nat → Bool) (n : Nat) : cR f (n + 1) = cR f n + (f n).toNat := by
 unfold cR
 rw [List.range_succ, List.countP_append, List.countP_singleton]
 cases f n <;> rfl
theorem cR_same {f f' : Nat → Bool} : ∀ {n : Nat}, (∀ j, j < n → f' j = f j) → cR f' n = cR f n
 | 0, _ => rfl
 | n + 1, h => by rw [cR_succ, cR_succ, cR_same (n := n) fun j hj => h j (by omega), h n (by omega)]
theorem cR_upd {f f' : Nat → Bool} {k : Nat} (h : ∀ j, j ≠ k → f' j = f j) : ∀ {n : Nat}, k < n → cR f' n + (f k).toNat = cR f n + (f' k).toNat
 | 0, hk => by omega
 | n + 1, hk => by
  rw [cR_succ, cR_succ]
  by_cases e : k = n
  ·
   subst e
   rw [cR_same fun j hj => h j (by omega)]
   omega
  ·
   rw [h n (fun e2 => e e2.symm)]
   have := cR_upd h (n := n) (by omega)
   omega
theorem bkN_append (b : Int) (L K : List Slt) : bkN b (L ++ K) = bkN b L + bkN b K := List.countP_append
theorem bkN_le (b : Int) (L : List Slt) : bkN b L ≤ L.length := List.countP_le_length
theorem bkN_live (b : Int) (n : Nat) (s : TSt) : bkN b (liveL n s) = cR (fun k => (s.E k).used && ((s.E k).bk == b)) n := by
 unfold bkN liveL entsOf allL cR
 rw [List.countP_map, List.countP_filter]
 congr 1
 funext k
 simp [Bool.and_comm]
theorem bkN_one (b : Int) (x : Slt) : bkN b [x] = (x.bk == b).toNat := by
 unfold bkN
 rw [List.countP_singleton]
 cases x.bk == b <;> rfl
theorem bkN_E {n : Nat} {s s' : TSt} (h : ∀ k, k < n → s'.E k = s.E k) (b : Int) : bkN b (liveL n s') = bkN b (liveL n s) := by
 rw [bkN_live, bkN_live]
 exact cR_same fun j hj => by rw [h j hj]
theorem bkN_upd {n k : Nat} {s s' : TSt} {x : Slt} (hk : k < n) (hE : s'.E = updE s.E k x) (b : Int) : bkN b (liveL n s') + ((s.E k).used && ((s.E k).bk == b)).toNat = bkN b (liveL n s) + (x.used && (x.bk == b)).toNat := by
 rw [bkN_live, bkN_live]
 have h := cR_upd (f := fun k => (s.E k).used && ((s.E k).bk == b)) (f' := fun k => (s'.E k).used && ((s'.E k).bk == b)) (k := k) (fun j hj => by rw [hE, updE_ne _ _ hj]) hk
 simp only [hE, updE_self] at h ⊢
 exact h
theorem bkN_catF {f g h : Nat → List Slt} {b : Int} : ∀ {p : Nat}, (∀ i, i < p → bkN b (f i) + bkN b (g i) = bkN b (h i)) → bkN b (catF f p) + bkN b (catF g p) = bkN b (catF h p)
 | 0, _ => rfl
 | p + 1, hh => by
  have h1 := bkN_catF (p := p) fun i hi => hh i (by omega)
  have h2 := hh p (by omega)
  rw [catF, catF, catF, bkN_append, bkN_append, bkN_append]
  omega
theorem bkN_goAll {n : Nat} (b : Int) : ∀ (S : List Int) {s : TSt}, TI n s → S.Nodup → (∀ x ∈ S, 0 ≤ x ∧ x < n ∧ (s.E x.toNat).used = true) → bkN b (liveL n (goAll n s S)) + bkN b (S.map fun x => s.E x.toNat) = bkN b (liveL n s)
 | [], s, _, _, _ => rfl
 | x :: S, s, h, hn, hx => by
  obtain ⟨a, c, d⟩ := hx x List.mem_cons_self
  rw [List.nodup_cons] at hn
  obtain ⟨k, rfl⟩ : ∃ k : Nat, x = (k : Int) := ⟨x.toNat, by omega⟩
  rw [Int.toNat_natCast] at d
  have h2 := h.gone (k := k) (by omega) d
  have hE : ∀ j : Nat, j ≠ k → (goS n s k).E j = s.E j := fun j hj => updE_ne _ _ hj
  have hne : ∀ y ∈ S, y.toNat ≠ k := fun y hy e => hn.1 (by
   have := (hx y (List.mem_cons_of_mem _ hy)).1
   rw [show (k : Int) = y by omega]
   exact hy)
  have ih := bkN_goAll b S h2 hn.2 fun y hy => by
   obtain ⟨a2, b2, d2⟩ := hx y (List.mem_cons_of_mem _ hy)
   rw [hE y.toNat (hne y hy)]
   exact ⟨a2, b2, d2⟩
  rw [show (S.map fun x => (goS n s k).E x.toNat) = S.map fun x => s.E x.toNat from List.map_congr_left fun y hy => hE _ (hne y hy)] at ih
  have h3 := bkN_upd (n := n) (k := k) (s := s) (s' := goS n s k) (x := clrS (s.E k)) (by omega) rfl b
  rw [d] at h3
  have h4 : (clrS (s.E k)).used = false := rfl
  rw [h4] at h3
  rw [goAll_cons, Int.toNat_natCast, List.map_cons, show ((fun x : Int => s.E x.toNat) (k : Int) :: S.map fun x => s.E x.toNat) = [s.E k] ++ S.map fun x => s.E x.toNat from rfl, bkN_append, bkN_one]
  simp only [Bool.true_and, Bool.false_and, Bool.toNat_false] at h3
  omega
theorem bkN_go {n : Nat} {s : TSt} (h : TI n s) {G nw : Int} {S : List Int} (hS : GoS G s.now nw s.M S) (b : Int) : bkN b (liveL n (goTab n s nw S)) + bkN b (goEnts s S) = bkN b (liveL n s) := by
 have hm : ∀ x ∈ S, 0 ≤ x ∧ x < n ∧ (s.E x.toNat).used = true := fun x hx => by
  cases hg : goOk s.now nw
  ·
   rw [hS.no hg] at hx
   cases hx
  · exact (h.has x).1 ((hS.mem hg x).1 hx).1
 rw [← bkN_goAll b S h hS.nd hm]
 congr 1
 refine bkN_E (fun k _ => ?_) b
 rw [(h.go hS).2.1 k, (TI.all S h hS.nd hm).2.1 k]
theorem bkN_drop {n : Nat} {s : TSt} (h : TI n s) (bk b : Int) : bkN b (liveL n (dropSC n bk s)) + bkN b (entsOf s.E (dropL n bk s)) = bkN b (liveL n s) := by
 unfold dropSC dropL entsOf
 rw [dropS_eq]
 have hm : ∀ k : Nat, k ∈ allL s.E (fun x => x.bk == bk) n → k < n ∧ (s.E k).used = true := fun k hk => by
  unfold allL at hk
  rw [List.mem_filter, List.mem_range, Bool.and_eq_true] at hk
  exact ⟨hk.1, hk.2.1⟩
 have hk := bkN_goAll b ((allL s.E (fun x => x.bk == bk) n).map fun k : Nat => (k : Int)) h (by unfold List.Nodup; rw [List.pairwise_map]; exact (allL_nodup s.E _ n).imp fun h e => h (by omega)) (fun x hx => by
  obtain ⟨k, hk, rfl⟩ := List.mem_map.1 hx
  have := hm k hk
  rw [Int.toNat_natCast]
  exact ⟨by omega, by omega, this.2⟩)
 rw [List.map_map] at hk
 exact hk
theorem lmGet_del_self (M : LM) (id : Int) : lmGet (lmDel M id) id = 0 := by
 unfold lmGet
 rw [List.find?_eq_none.2 fun x hx => by
  have := (List.mem_filter.1 hx).2
  cases e : x.1 == id
  · simp
  ·
   rw [e] at this
   cases this]
structure LdI (M : LM) (c : Int → Nat) : Prop where
 srt : lmSorted M
 pos : lmPos M
 wf : lmWf M
 get : ∀ b, lmGet M b = (c b : Int)
theorem LdI.congr {M : LM} {c c' : Int → Nat} (h : LdI M c) (e : ∀ b, c b = c' b) : LdI M c' := ⟨h.srt, h.pos, h.wf, fun b => by rw [h.get, e]⟩
theorem LdI.new : LdI [] (fun _ => 0) := ⟨List.Pairwise.nil, fun _ h => (by cases h), fun _ h => (by cases h), fun _ => rfl⟩
theorem LdI.key {M : LM} {c : Int → Nat} (h : LdI M c) {b : Int} (hb : 0 < c b) : (Lit.int .i64 b).wf = true := by
 have hg := h.get b
 unfold lmGet at hg
 cases hf : M.find? (fun x => x.1 == b) with
 | none => rw [hf] at hg; have hg : (0 : Int) = (c b : Int) := hg; omega
 | some x =>
  have h1 := List.mem_of_find?_eq_some hf
  have h2 := List.find?_some hf
  have := h.wf x h1
  rwa [beq_iff_eq.1 h2] at this
theorem LdI.add {M : LM} {c : Int → Nat} (h : LdI M c) {b : Int} (hw : (Lit.int .i64 b).wf = true) (hc : c b < 1000000) : LdI (lmAdd M b 1) (fun x => c x + (b == x).toNat) where
 srt := lmAdd_sorted h.srt b 1
 pos := lmAdd_pos h.pos b 1
 wf := lmAdd_wf h.wf hw
 get := fun x => by
  have hg := h.get b
  unfold lmAdd
  rw [if_neg (by omega), hg, Int.min_eq_right (by omega), if_neg (by omega)]
  by_cases e : x = b
  ·
   subst e
   rw [lmGet_put]
   simp
  ·
   rw [wGet_put e, h.get x, beq_eq_false_iff_ne.2 fun e2 => e e2.symm]
   simp
theorem LdI.sub {M : LM} {c c' : Int → Nat} (h : LdI M c') {b : Int} (e : ∀ x, c' x = c x + (b == x).toNat) (hc : c b < 1000000) : LdI (lmAdd M b (-1)) c where
 srt := lmAdd_sorted h.srt b _
 pos := lmAdd_pos h.pos b _
 wf := lmAdd_wf h.wf (h.key (b := b) (by rw [e b]; simp))
 get := fun x => by
  have hg := h.get b
  have eb := e b
  simp only [beq_self_eq_true, Bool.toNat_true] at eb
  unfold lmAdd
  rw [if_neg (by omega), hg, Int.min_eq_right (by omega)]
  by_cases e2 : x = b
  ·
   subst e2
   split
   ·
    rw [lmGet_del_self]
    omega
   ·
    rw [lmGet_put]
    omega
  ·
   have ex := e x
   rw [beq_eq_false_iff_ne.2 fun e3 => e2 e3.symm] at ex
   simp only [Bool.toNat_false, Nat.add_zero] at ex
   split
   · rw [lmGet_del e2, h.get x, ex]
   · rw [wGet_put e2, h.get x, ex]
def lmSubs (M : LM) (L : List Slt) : LM := L.foldl (fun M x => lmAdd M x.bk (-1)) M
theorem lmSubs_take {M : LM} {L : List Slt} {k : Nat} (hk : k < L.length) : lmSubs M (L.take (k + 1)) = lmAdd (lmSubs M (L.take k)) (L[k]).bk (-1) := by
 unfold lmSubs
 rw [List.take_add_one, List.getElem?_eq_getElem hk, Option.toList_some, List.foldl_append]
 rfl
theorem LdI.subs : ∀ (L : List Slt) {M : LM} {c c' : Int → Nat}, LdI M c' → (∀ x, c' x = c x + bkN x L) → (∀ b, c' b < 1000000) → LdI (lmSubs M L) c
 | [], M, c, c', h, e, _ => h.congr fun b => by have := e b; simpa [bkN] using this
 | y :: L, M, c, c', h, e, hc => by
  have h2 : LdI (lmAdd M y.bk (-1)) (fun x => c x + bkN x L) := h.sub (fun x => by
   rw [e x, show y :: L = [y] ++ L from rfl, bkN_append, bkN_one]
   omega) (by
   have := hc y.bk
   have := e y.bk
   rw [show y :: L = [y] ++ L from rfl, bkN_append] at this
   omega)
  exact LdI.subs L h2 (fun x => rfl) fun b => by
   have := hc b
   have := e b
   rw [show y :: L = [y] ++ L from rfl, bkN_append] at this
   omega
theorem lmGet_cons1 (x : Int × Int) (M : LM) (j : Int) : lmGet (x :: M) j = if x.1 = j then x.2 else lmGet M j := by
 unfold lmGet
 rw [List.find?_cons]
 by_cases h : x.1 = j
 · simp [h]
 · rw [if_neg h, beq_eq_false_iff_ne.2 h]
theorem lmGet_low {M : LM} {id : Int} (h : ∀ x ∈ M, id < x.1) : lmGet M id = 0 := by
 unfold lmGet
 rw [List.find?_eq_none.2 fun x hx => by have := h x hx; simp; omega]
theorem ld_total : ∀ (M : LM) (L : List Slt), lmSorted M → lmPos M → (∀ b, lmGet M b = (bkN b L : Int)) → lmSum M = L.length ∧ M.length ≤ L.length
 | [], L, _, _, h => by
  cases L with
  | nil => exact ⟨rfl, Nat.le_refl _⟩
  | cons y L =>
   have h1 := h y.bk
   rw [show y :: L = [y] ++ L from rfl, bkN_append, bkN_one] at h1
   have h2 : lmGet [] y.bk = 0 := rfl
   rw [h2, beq_self_eq_true] at h1
   simp only [Bool.toNat_true] at h1
   omega
 | x :: M, L, hs, hp, h => by
  obtain ⟨h1, h2⟩ := List.pairwise_cons.1 hs
  have hx := hp x List.mem_cons_self
  have hc : ∀ b, bkN b L = bkN b (L.filter fun y => !(y.bk == x.1)) + (if b = x.1 then bkN b L else 0) := fun b => by
   unfold bkN
   rw [List.countP_filter]
   by_cases e : b = x.1
   ·
    subst e
    have e0 : List.countP (fun y : Slt => (y.bk == x.1) && !(y.bk == x.1)) L = 0 := List.countP_eq_zero.2 fun y _ => by
     show ¬ ((y.bk == x.1) && !(y.bk == x.1)) = true
     cases y.bk == x.1 <;> decide
    rw [if_pos rfl]
    omega
   ·
    rw [if_neg e, Nat.add_zero]
    refine List.countP_congr fun y _ => ?_
    simp only [Bool.and_eq_true, beq_iff_eq, Bool.not_eq_true', beq_eq_false_iff_ne]
    exact ⟨fun h => ⟨h, fun e2 => e (h.symm.trans e2)⟩, fun h => h.1⟩
  have ih := ld_total M (L.filter fun y => !(y.bk == x.1)) h2 (fun y hy => hp y (List.mem_cons_of_mem _ hy)) fun b => by
   have hb := h b
   rw [lmGet_cons1] at hb
   have hcb := hc b
   by_cases e : x.1 = b
   ·
    subst e
    rw [if_pos rfl] at hcb
    rw [lmGet_low h1]
    omega
   ·
    rw [if_neg e] at hb
    rw [if_neg fun e2 => e e2.symm] at hcb
    omega
  have hxl := h x.1
  rw [lmGet_cons1, if_pos rfl] at hxl
  have hlen : L.length = (L.filter fun y => !(y.bk == x.1)).length + bkN x.1 L := by
   have := List.length_eq_countP_add_countP (p := fun y : Slt => y.bk == x.1) (l := L)
   unfold bkN
   rw [← List.countP_eq_length_filter]
   simp only [Bool.not_eq_true, Bool.decide_eq_false] at this
   omega
  have hsum : lmSum (x :: M) = x.2 + lmSum M := by unfold lmSum; simp
  rw [hsum, List.length_cons]
  omega
theorem LdI.total {M : LM} {L : List Slt} (h : LdI M fun b => bkN b L) : lmSum M = L.length ∧ M.length ≤ L.length := ld_total M L h.srt h.pos h.get
section
variable {w w' : World} {g p n : Nat} {r : TRule} {S : Nat → TSt} {X F : Nat → Prop}
end
section
variable {w w' w4 w5 wx : World} {g p n pb q j a a' : Nat} {r : TRule} {S S' : Nat → TSt} {X X1 X2 F : Nat → Prop} {gs : Nat → Nat} {LL : Nat → List Slt} {A A' : Option Addr}
end
section
variable {w w' w4 w5 wx : World} {g p n : Nat} {r : TRule} {S : Nat → TSt} {X : Nat → Prop}
end
end Go.Proofs.YtohapcacckapoaaGreat
