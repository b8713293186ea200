/- table: what stays true of a table, in plain words. table: a table in a law's world: what is true of it, and the blocks that are not its own; tables that nobody made. -/
import Derived.Test.YtohapcacckapoaaGreatJ32
namespace Go.Proofs.YtohapcacckapoaaGreat
open Go Go.RowKit Go.Deep Go.Maps Go.ChangeMaps
theorem lmIns_perm (x : Int × Int) : ∀ M : LM, (lmIns x M).Perm (x :: M)
 | [] => List.Perm.refl _
 | y :: r => by
  unfold lmIns
  split
  · exact List.Perm.refl _
  · exact ((lmIns_perm x r).cons y).trans (List.Perm.swap x y r)
theorem lmDel_nd {M : LM} (h : (M.map (·.1)).Nodup) (id : Int) : ((lmDel M id).map (·.1)).Nodup := by
 unfold lmDel
 exact h.sublist (List.filter_sublist.map _)
theorem lmPut_nd {M : LM} (h : (M.map (·.1)).Nodup) (id v : Int) : ((lmPut M id v).map (·.1)).Nodup := by
 unfold lmPut
 rw [((lmIns_perm (id, v) (lmDel M id)).map _).nodup_iff, List.map_cons, List.nodup_cons]
 refine ⟨fun hx => ?_, lmDel_nd h id⟩
 obtain ⟨y, hy, e⟩ := List.mem_map.1 hx
 have := (List.mem_filter.1 hy).2
 simp [e] at this
theorem lmHas_put {M : LM} {id v x : Int} : lmHas (lmPut M id v) x = true ↔ x = id ∨ lmHas M x = true := by
 unfold lmPut
 rw [lmHas_ins, lmHas_del]
 constructor
 ·
  rintro (h | h)
  · exact .inl h
  · exact .inr h.1
 ·
  rintro (h | h)
  · exact .inl h
  ·
   by_cases e : x = id
   · exact .inl e
   · exact .inr ⟨h, e⟩
theorem lmHas_mem {M : LM} {x : Int} : lmHas M x = true ↔ x ∈ M.map (·.1) := by
 rw [lmHas_iff, List.mem_map]
theorem wrap64_rng (x : Int) : 0 ≤ IntKind.u64.wrap x ∧ IntKind.u64.wrap x < 18446744073709551616 := by
 simp [IntKind.wrap, IntKind.bits, IntKind.signed]
 omega
def tupW (t : Tup) : Prop := tupOk t = true ∧ (t.p = 17 ∨ t.p = 6)
structure TI (n : Nat) (s : TSt) : Prop where
 sl : ∀ k : Nat, k < n → (s.E k).sl = k
 nd : s.L.Nodup
 rng : ∀ x ∈ s.L, 0 ≤ x ∧ x < n
 used : ∀ k : Nat, k < n → ((s.E k).used = true ↔ (k : Int) ∉ s.L)
 has : ∀ x : Int, lmHas s.M x = true ↔ 0 ≤ x ∧ x < n ∧ (s.E x.toNat).used = true
 get : ∀ k : Nat, k < n → (s.E k).used = true → lmGet s.M k = (s.E k).due
 mnd : (s.M.map (·.1)).Nodup
 tup : ∀ k : Nat, k < n → (s.E k).used = true → tupW (s.E k).t
 gr : ∀ k : Nat, k < n → 0 ≤ (s.E k).gen ∧ (s.E k).gen < 18446744073709551616
section
variable {n : Nat} {s : TSt} {c : TCfg}
theorem TI.mlen (h : TI n s) : s.M.length ≤ n := by
 have := nodup_len n (s.M.map (·.1)) h.mnd fun x hx => by
  have := (h.has x).1 (lmHas_mem.2 hx)
  omega
 rwa [List.length_map] at this
theorem TI.hasN (h : TI n s) : ∀ x, lmHas s.M x = true → 0 ≤ x ∧ x < n := fun x hx => by
 have := (h.has x).1 hx
 omega
theorem TI.new (n : Nat) : TI n ⟨0, [], upto n 0, fun k => { slt0 with sl := k }, 0⟩ where
 sl := fun k hk => rfl
 nd := by
  show (upto n 0).Nodup
  unfold upto
  simp only [List.Nodup, List.pairwise_map]
  exact List.Pairwise.imp (fun h e => h (by omega)) (List.nodup_range (n := n - 0))
 rng := fun x hx => by have := mem_upto hx; omega
 used := fun k hk => by
  constructor
  ·
   intro h
   cases h
  ·
   intro h
   exact absurd (show (k : Int) ∈ upto n 0 by
    unfold upto
    exact List.mem_map.2 ⟨k, List.mem_range.2 (by omega), by simp⟩) h
 has := fun x => by
  constructor
  ·
   intro h
   cases h
  ·
   rintro ⟨-, -, h⟩
   cases h
 get := fun k hk h => by cases h
 mnd := List.nodup_nil
 tup := fun k hk h => by cases h
 gr := fun k hk => by show (0 : Int) ≤ 0 ∧ (0 : Int) < 18446744073709551616; omega
theorem TI.lk (h : TI n s) (l : Int) : TI n { s with lk := l } := ⟨h.sl, h.nd, h.rng, h.used, h.has, h.get, h.mnd, h.tup, h.gr⟩
theorem TI.look (h : TI n s) (i : Int) : TI n (lookS n i s) := by
 unfold lookS
 split
 · exact h.lk _
 · exact h
theorem TI.now (h : TI n s) (t : Int) : TI n { s with now := t } := ⟨h.sl, h.nd, h.rng, h.used, h.has, h.get, h.mnd, h.tup, h.gr⟩
theorem pushL_used (h : TI n s) {k : Nat} (hk : k < n) (hu : (s.E k).used = true) : pushL n s.L k = (k : Int) :: s.L := by
 have h1 := (h.used k hk).1 hu
 unfold pushL pushOk inB
 simp [h1, hk]
theorem TI.gone (h : TI n s) {k : Nat} (hk : k < n) (hu : (s.E k).used = true) : TI n (goS n s k) where
 sl := goS_sl h.sl
 nd := by
  show (pushL n s.L k).Nodup
  rw [pushL_used h hk hu, List.nodup_cons]
  exact ⟨(h.used k hk).1 hu, h.nd⟩
 rng := fun x hx => by
  have hx : x ∈ pushL n s.L k := hx
  rw [pushL_used h hk hu, List.mem_cons] at hx
  rcases hx with rfl | hx
  · omega
  · exact h.rng x hx
 used := fun j hj => by
  show (updE s.E k (clrS (s.E k)) j).used = true ↔ (j : Int) ∉ pushL n s.L k
  rw [pushL_used h hk hu, List.mem_cons]
  by_cases e : j = k
  ·
   subst e
   rw [updE_self]
   constructor
   ·
    intro h
    cases h
   · exact fun h => absurd (.inl rfl) h
  ·
   rw [updE_ne _ _ e, h.used j hj]
   have : ¬ (j : Int) = (k : Int) := by omega
   simp [this]
 has := fun x => by
  show lmHas (lmDel s.M k) x = true ↔ 0 ≤ x ∧ x < n ∧ (updE s.E k (clrS (s.E k)) x.toNat).used = true
  rw [lmHas_del, h.has]
  by_cases e : x = (k : Int)
  ·
   subst e
   rw [Int.toNat_natCast, updE_self]
   constructor
   · exact fun h => absurd rfl h.2
   ·
    rintro ⟨-, -, h⟩
    cases h
  ·
   constructor
   ·
    rintro ⟨⟨a, b, d⟩, -⟩
    refine ⟨a, b, ?_⟩
    rwa [updE_ne _ _ (show x.toNat ≠ k by omega)]
   ·
    rintro ⟨a, b, d⟩
    rw [updE_ne _ _ (show x.toNat ≠ k by omega)] at d
    exact ⟨⟨a, b, d⟩, e⟩
 get := fun j hj hu2 => by
  have hu2 : (updE s.E k (clrS (s.E k)) j).used = true := hu2
  show lmGet (lmDel s.M k) j = (updE s.E k (clrS (s.E k)) j).due
  by_cases e : j = k
  ·
   subst e
   rw [updE_self] at hu2
   cases hu2
  ·
   rw [updE_ne _ _ e] at hu2 ⊢
   rw [lmGet_del (by omega)]
   exact h.get j hj hu2
 mnd := lmDel_nd h.mnd _
 tup := fun j hj hu2 => by
  have hu2 : (updE s.E k (clrS (s.E k)) j).used = true := hu2
  show tupW (updE s.E k (clrS (s.E k)) j).t
  by_cases e : j = k
  ·
   subst e
   rw [updE_self] at hu2
   cases hu2
  ·
   rw [updE_ne _ _ e] at hu2 ⊢
   exact h.tup j hj hu2
 gr := fun j hj => by
  show 0 ≤ (updE s.E k (clrS (s.E k)) j).gen ∧ (updE s.E k (clrS (s.E k)) j).gen < 18446744073709551616
  by_cases e : j = k
  ·
   subst e
   rw [updE_self]
   exact wrap64_rng _
  ·
   rw [updE_ne _ _ e]
   exact h.gr j hj
theorem TI.put (h : TI n s) {k : Nat} (hk : k < n) {x : Slt} {l : List Int} {lk : Int} (hl : s.L = (k : Int) :: l ∨ (s.E k).used = true ∧ s.L = l) (hx : x.used = true) (hs : x.sl = k) (ht : tupW x.t) (hg : x.gen = (s.E k).gen) :
  TI n { s with L := l, E := updE s.E k x, M := lmPut s.M k x.due, lk := lk } := by
 have hnl : (k : Int) ∉ l := by
  rcases hl with hl | ⟨hu, rfl⟩
  ·
   have := h.nd
   rw [hl, List.nodup_cons] at this
   exact this.1
  · exact (h.used k hk).1 hu
 have hmem : ∀ j : Nat, j ≠ k → ((j : Int) ∈ l ↔ (j : Int) ∈ s.L) := fun j hj => by
  rcases hl with hl | ⟨hu, rfl⟩
  ·
   rw [hl, List.mem_cons]
   have : ¬ (j : Int) = (k : Int) := by omega
   simp [this]
  · exact Iff.rfl
 have hsub : ∀ y ∈ l, y ∈ s.L := fun y hy => by
  rcases hl with hl | ⟨hu, rfl⟩
  ·
   rw [hl]
   exact List.mem_cons_of_mem _ hy
  · exact hy
 refine ⟨fun j hj => ?_, ?_, fun y hy => h.rng y (hsub y hy), fun j hj => ?_, fun y => ?_, fun j hj hu => ?_, lmPut_nd h.mnd _ _, fun j hj hu => ?_, fun j hj => ?_⟩
 ·
  show (updE s.E k x j).sl = j
  by_cases e : j = k
  ·
   subst e
   rw [updE_self, hs]
  · rw [updE_ne _ _ e, h.sl j hj]
 ·
  show l.Nodup
  rcases hl with hl | ⟨hu, rfl⟩
  ·
   have := h.nd
   rw [hl, List.nodup_cons] at this
   exact this.2
  · exact h.nd
 ·
  show (updE s.E k x j).used = true ↔ (j : Int) ∉ l
  by_cases e : j = k
  ·
   subst e
   rw [updE_self, hx]
   simp [hnl]
  · rw [updE_ne _ _ e, h.used j hj, hmem j e]
 ·
  show lmHas (lmPut s.M k x.due) y = true ↔ 0 ≤ y ∧ y < n ∧ (updE s.E k x y.toNat).used = true
  rw [lmHas_put, h.has]
  by_cases e : y = (k : Int)
  ·
   subst e
   rw [Int.toNat_natCast, updE_self, hx]
   exact ⟨fun _ => ⟨by omega, by omega, rfl⟩, fun _ => .inl rfl⟩
  ·
   constructor
   ·
    rintro (a | ⟨a, b, d⟩)
    · exact absurd a e
    ·
     refine ⟨a, b, ?_⟩
     rwa [updE_ne _ _ (show y.toNat ≠ k by omega)]
   ·
    rintro ⟨a, b, d⟩
    rw [updE_ne _ _ (show y.toNat ≠ k by omega)] at d
    exact .inr ⟨a, b, d⟩
 ·
  have hu : (updE s.E k x j).used = true := hu
  show lmGet (lmPut s.M k x.due) j = (updE s.E k x j).due
  by_cases e : j = k
  ·
   subst e
   rw [updE_self, lmGet_put]
  ·
   rw [updE_ne _ _ e] at hu ⊢
   rw [wGet_put (by omega)]
   exact h.get j hj hu
 ·
  have hu : (updE s.E k x j).used = true := hu
  show tupW (updE s.E k x j).t
  by_cases e : j = k
  ·
   subst e
   rw [updE_self]
   exact ht
  ·
   rw [updE_ne _ _ e] at hu ⊢
   exact h.tup j hj hu
 ·
  show 0 ≤ (updE s.E k x j).gen ∧ (updE s.E k x j).gen < 18446744073709551616
  by_cases e : j = k
  ·
   subst e
   rw [updE_self, hg]
   exact h.gr j hj
  ·
   rw [updE_ne _ _ e]
   exact h.gr j hj
theorem dropS_eq (s : TSt) (L : List Nat) : dropS n s L = goAll n s (L.map fun k : Nat => (k : Int)) := by
 unfold dropS goAll
 rw [List.foldl_map]
 rfl
theorem goAll_cons (s : TSt) (x : Int) (S : List Int) : goAll n s (x :: S) = goAll n (goS n s x.toNat) S := rfl
theorem TI.all : ∀ (S : List Int) {s : TSt}, TI n s → S.Nodup → (∀ x ∈ S, 0 ≤ x ∧ x < n ∧ (s.E x.toNat).used = true) → TI n (goAll n s S) ∧ (∀ k : Nat, (goAll n s S).E k = if (k : Int) ∈ S then clrS (s.E k) else s.E k) ∧ (goAll n s S).M = delAll s.M S ∧ (goAll n s S).L = S.reverse ++ s.L ∧ (goAll n s S).now = s.now ∧ (goAll n s S).lk = s.lk
 | [], s, h, _, _ => ⟨h, fun k => by simp [goAll], rfl, by simp [goAll], rfl, rfl⟩
 | x :: S, s, h, hn, hx => by
  obtain ⟨a, b, d⟩ := hx x List.mem_cons_self
  rw [List.nodup_cons] at hn
  obtain ⟨k, rfl⟩ : ∃ k : Nat, x = (k : Int) := ⟨x.toNat, by omega⟩
  rw [Int.toNat_natCast] at d
  have h2 := h.gone (k := k) (by omega) d
  have hE : ∀ j : Nat, j ≠ k → (goS n s k).E j = s.E j := fun j hj => updE_ne _ _ hj
  have ih := TI.all S h2 hn.2 fun y hy => by
   obtain ⟨a2, b2, d2⟩ := hx y (List.mem_cons_of_mem _ hy)
   have hne : y ≠ (k : Int) := fun e => hn.1 (e ▸ hy)
   rw [hE y.toNat (by omega)]
   exact ⟨a2, b2, d2⟩
  rw [goAll_cons, Int.toNat_natCast]
  refine ⟨ih.1, fun j => ?_, ?_, ?_, ih.2.2.2.2.1, ih.2.2.2.2.2⟩
  ·
   rw [ih.2.1 j]
   by_cases e : j = k
   ·
    subst e
    rw [if_neg hn.1, if_pos List.mem_cons_self]
    exact updE_self _ _ _
   ·
    rw [hE j e]
    have : ¬ (j : Int) = (k : Int) := by omega
    simp only [List.mem_cons, this, false_or]
  ·
   rw [ih.2.2.1]
   rfl
  ·
   rw [ih.2.2.2.1]
   show S.reverse ++ pushL n s.L k = _
   rw [pushL_used h (by omega) d]
   simp
theorem goAll_M : ∀ (S : List Int) (s : TSt) (M' : LM), (∀ x ∈ S, 0 ≤ x) → goAll n { s with M := M' } S = { goAll n s S with M := delAll M' S }
 | [], _, _, _ => rfl
 | x :: S, s, M', h => by
  have hx := h x List.mem_cons_self
  rw [goAll_cons, goAll_cons]
  refine Eq.trans ?_ (goAll_M S (goS n s x.toNat) (lmDel M' x) fun y hy => h y (List.mem_cons_of_mem _ hy))
  congr 1
  unfold goS
  rw [Int.toNat_of_nonneg hx]
theorem delAll_same : ∀ (S : List Int) (M : LM), (∀ x ∈ S, ¬ lmHas M x = true) → delAll M S = M
 | [], _, _ => rfl
 | x :: S, M, h => by
  unfold delAll
  rw [lmDel_same (by simpa using h x List.mem_cons_self)]
  exact delAll_same S M fun y hy => h y (List.mem_cons_of_mem _ hy)
theorem TI.go (h : TI n s) {G nw : Int} {S : List Int} (hS : GoS G s.now nw s.M S) : TI n (goTab n s nw S) ∧ (∀ k : Nat, (goTab n s nw S).E k = if (k : Int) ∈ S then clrS (s.E k) else s.E k) ∧ (goTab n s nw S).M = delAll s.M S ∧ (goTab n s nw S).L = S.reverse ++ s.L ∧ (goTab n s nw S).now = goN s.now nw ∧ (goTab n s nw S).lk = s.lk := by
 have hm : ∀ x ∈ S, 0 ≤ x ∧ x < n ∧ (s.E x.toNat).used = true := fun x hx => by
  cases hg : goOk s.now nw
  ·
   rw [hS.no hg] at hx
   cases hx
  · exact (h.has x).1 ((hS.mem hg x).1 hx).1
 obtain ⟨h1, h2, h3, h4, h5, h6⟩ := TI.all S (h.now (goN s.now nw)) hS.nd hm
 have e : goTab n s nw S = goAll n { s with now := goN s.now nw } S := by
  refine (goAll_M S { s with now := goN s.now nw } (delAll s.M S) fun x hx => (hm x hx).1).trans ?_
  rw [delAll_same S (delAll s.M S) (fun x hx hh => ((lmHas_delAll S s.M).1 hh).2 hx), ← h3]
 rw [e]
 exact ⟨h1, h2, h3, h4, h5, h6⟩
theorem TI.drop (h : TI n s) (P : Slt → Bool) : TI n (dropS n s (allL s.E P n)) ∧ (∀ k : Nat, k < n → (dropS n s (allL s.E P n)).E k = if (s.E k).used && P (s.E k) then clrS (s.E k) else s.E k) ∧ (dropS n s (allL s.E P n)).L = (allL s.E P n).reverse.map (fun k : Nat => (k : Int)) ++ s.L ∧ (dropS n s (allL s.E P n)).now = s.now ∧ (dropS n s (allL s.E P n)).lk = s.lk := by
 have hm : ∀ k : Nat, k ∈ allL s.E P n ↔ k < n ∧ ((s.E k).used && P (s.E k)) = true := fun k => by
  unfold allL
  rw [List.mem_filter, List.mem_range]
 have hmm : ∀ k : Nat, (k : Int) ∈ (allL s.E P n).map (fun k : Nat => (k : Int)) ↔ k ∈ allL s.E P n := fun k => by
  rw [List.mem_map]
  constructor
  ·
   rintro ⟨j, hj, e⟩
   have : j = k := by omega
   exact this ▸ hj
  · exact fun h => ⟨k, h, rfl⟩
 rw [dropS_eq]
 obtain ⟨h1, h2, h3, h4, h5, h6⟩ := TI.all ((allL s.E P n).map fun k : Nat => (k : Int)) h (by unfold List.Nodup; rw [List.pairwise_map]; exact (allL_nodup s.E P n).imp fun h e => h (by omega)) (fun x hx => by
  obtain ⟨k, hk, rfl⟩ := List.mem_map.1 hx
  have := (hm k).1 hk
  rw [Bool.and_eq_true] at this
  rw [Int.toNat_natCast]
  exact ⟨by omega, by omega, this.2.1⟩)
 refine ⟨h1, fun k hk => ?_, by rw [h4, List.map_reverse], h5, h6⟩
 rw [h2 k]
 by_cases hx : ((s.E k).used && P (s.E k)) = true
 · rw [if_pos ((hmm k).2 ((hm k).2 ⟨hk, hx⟩)), if_pos hx]
 · rw [if_neg (fun e => hx ((hm k).1 ((hmm k).1 e)).2), if_neg hx]
end
def TabN (w0 w : World) (g sb n : Nat) (c : TCfg) (s : TSt) (K : Nat → Prop) : Prop :=
 TI n s ∧ c.right ∧ Below w0.heap.size w0 w ∧ ∃ X, TabP w g sb n c s X ∧ ∀ b, X b → w0.heap.size ≤ b ∧ ¬ K b
def Nk (w0 : World) (K : Nat → Prop) : Nat → Prop := fun b => w0.heap.size ≤ b ∧ ¬ K b
section
variable {w0 w w' : World} {g sb n : Nat} {c : TCfg} {s s' : TSt} {K K' F : Nat → Prop}
theorem TabN.ti (h : TabN w0 w g sb n c s K) : TI n s := h.1
theorem TabN.below (h : TabN w0 w g sb n c s K) : Below w0.heap.size w0 w := h.2.2.1
theorem TabN.size (h : TabN w0 w g sb n c s K) : w0.heap.size ≤ w.heap.size := h.2.2.1.size
theorem TabN.chg (h : TabN w0 w g sb n c s K) (k : Chg F w w') (hF : ∀ b, F b → K b) (h0 : ∀ b, F b → w0.heap.size ≤ b) : TabN w0 w' g sb n c s K := by
 obtain ⟨hi, hr, hb, X, h1, h2⟩ := h
 exact ⟨hi, hr, below_chg hb k (fun b hb hx => by have := h0 b hx; omega) hb.size, X, h1.chg k (fun b hx hf => (h2 b hx).2 (hF b hf)), h2⟩
theorem TabN.call (h : TabN w0 w g sb n c s K) (hb : Below w.heap.size w w') : TabN w0 w' g sb n c s (fun b => K b ∨ w.heap.size ≤ b ∧ b < w'.heap.size) := by
 obtain ⟨hi, hr, hb0, X, h1, h2⟩ := h
 refine ⟨hi, hr, below_chain hb hb0, X, h1.call hb, fun b hx => ⟨(h2 b hx).1, fun hk => ?_⟩⟩
 rcases hk with hk | hk
 · exact (h2 b hx).2 hk
 ·
  have := h1.lt hx
  omega
theorem TabN.mono (h : TabN w0 w g sb n c s K) (hK : ∀ b, K' b → K b) : TabN w0 w g sb n c s K' := by
 obtain ⟨hi, hr, hb0, X, h1, h2⟩ := h
 exact ⟨hi, hr, hb0, X, h1, fun b hx => ⟨(h2 b hx).1, fun hk => (h2 b hx).2 (hK b hk)⟩⟩
theorem TabN.call0 (h : TabN w0 w g sb n c s K) (hb : Below w.heap.size w w') : TabN w0 w' g sb n c s K := (h.call hb).mono fun _ hk => .inl hk
theorem TabN.alloc (h : TabN w0 w g sb n c s K) (o : Obj) : TabN w0 (w.alloc o) g sb n c s (fun b => K b ∨ b = w.heap.size) :=
 (h.call (below_alloc (Below.refl _ _) o)).mono fun b hk => hk.imp id fun e => ⟨by omega, by rw [World.size_alloc]; omega⟩
theorem TabN.drew (h : TabN w0 w g sb n c s K) : TabN w0 w.drew g sb n c s K := h.call0 (Below.refl _ _).drew
def liveL (n : Nat) (s : TSt) : List Slt := entsOf s.E (allL s.E (fun _ => true) n)
end
end Go.Proofs.YtohapcacckapoaaGreat
