/- Arguments as data: what a value of a type made of integers, bools, strings, structs, arrays and slices reads as. A slice of structs of one-cell fields as a list of records. Integers that a law is given, by their kinds. -/
import Derived.Test.YtohapcacckapoaaGreatJ2
import Derived.OpenShut
import Derived.WideWitness
namespace Go.Proofs.YtohapcacckapoaaGreat
open Go Go.RowKit Go.WideShapes Go.ChangeShapes
inductive FT where
 | int (k : IntKind)
 | float (k : FloatKind)
 | bool
 | str
 | slice (t : FT)
 | unit
 | pair (a b : FT)
@[reducible] def FT.Val : FT → Type
 | .int _ => Int
 | .float _ => Nat
 | .bool => Bool
 | .str => ByteArray
 | .slice t => List t.Val
 | .unit => Unit
 | .pair a b => a.Val × b.Val
def FT.size : FT → Nat
 | .unit => 0
 | .pair a b => a.size + b.size
 | _ => 1
def FT.rep (t : FT) : Nat → FT
 | 0 => .unit
 | n + 1 => .pair t (t.rep n)
def Rep (w : World) : (t : FT) → t.Val → List Value → Prop
 | .int k, n, cs => cs = [.int k n] ∧ (Lit.int k n).wf = true
 | .float k, n, cs => cs = [.float k n] ∧ (Lit.float k n).wf = true
 | .bool, b, cs => cs = [.bool b]
 | .str, s, cs => cs = [.string s] ∧ s.size ≤ maxLen
 | .slice t, xs, cs => ∃ A c, cs = [.slice A xs.length c] ∧ xs.length ≤ maxLen ∧ (0 < xs.length → ∃ ad, A = some ad ∧ ad.block < w.heap.size ∧
   ∀ (i : Nat) (x : t.Val), xs[i]? = some x → ∃ es : List Value, Rep w t x es ∧ es.length = t.size ∧ ∀ j u, es[j]? = some u → w.cell? (ad.add (i * t.size + j)) = some u)
 | .unit, _, cs => cs = []
 | .pair a b, x, cs => ∃ c1 c2, cs = c1 ++ c2 ∧ Rep w a x.1 c1 ∧ Rep w b x.2 c2
theorem Rep.length {w : World} : ∀ {t : FT} {x : t.Val} {cs : List Value}, Rep w t x cs → cs.length = t.size
 | .int _, _, _, h => by rw [h.1]; rfl
 | .float _, _, _, h => by rw [h.1]; rfl
 | .bool, _, _, h => by have h : _ = _ := h; rw [h]; rfl
 | .str, _, _, h => by rw [h.1]; rfl
 | .slice _, _, _, ⟨_, _, h, _⟩ => by rw [h]; rfl
 | .unit, _, _, h => by have h : _ = _ := h; rw [h]; rfl
 | .pair a b, _, _, ⟨c1, c2, h, h1, h2⟩ => by rw [h, List.length_append, h1.length, h2.length]; rfl
theorem Rep.below {w w' : World} (hb : Below w.heap.size w w') : ∀ {t : FT} {x : t.Val} {cs : List Value}, Rep w t x cs → Rep w' t x cs
 | .int _, _, _, h => h
 | .float _, _, _, h => h
 | .bool, _, _, h => h
 | .str, _, _, h => h
 | .slice t, xs, _, ⟨A, c, h, hm, hr⟩ => ⟨A, c, h, hm, fun hn => by
   obtain ⟨ad, hA, hlt, hi⟩ := hr hn
   refine ⟨ad, hA, Nat.lt_of_lt_of_le hlt hb.size, fun i x hx => ?_⟩
   obtain ⟨es, he, hl, hc⟩ := hi i x hx
   exact ⟨es, he.below hb, hl, fun j u hu => (hb.cell (p := ad.add (i * t.size + j)) (by rw [block_of_add]; exact hlt)).trans (hc j u hu)⟩⟩
 | .unit, _, _, h => h
 | .pair a b, _, _, ⟨c1, c2, h, h1, h2⟩ => ⟨c1, c2, h, h1.below hb, h2.below hb⟩
section
variable (P : Program)
mutual
def fitsT : Nat → TypeId → FT → Bool
 | 0, _, _ => false
 | n + 1, t, ft =>
  P.cellsOf t == ft.size &&
  match P.underlying t, ft with
  | some (.int k), .int k' => decide (k = k')
  | some (.float k), .float k' => decide (k = k')
  | some .bool, .bool => true
  | some .string, .str => true
  | some (.slice e), .slice f => decide (0 < f.size) && fitsT n e f
  | some (.struct fs), f => fitsFs n fs.toList 0 f
  | some (.array m e), f => fitsN n e m f
  | _, _ => false
def fitsFs : Nat → List Field → Nat → FT → Bool
 | 0, _, _, _ => false
 | _ + 1, [], _, .unit => true
 | n + 1, f :: fs, off, .pair a b => f.offset == off && fitsT n f.type a && fitsFs n fs (off + a.size) b
 | _ + 1, _, _, _ => false
def fitsN : Nat → TypeId → Nat → FT → Bool
 | 0, _, _, _ => false
 | _ + 1, _, 0, .unit => true
 | n + 1, e, m + 1, .pair a b => fitsT n e a && fitsN n e m b
 | _ + 1, _, _, _ => false
end
end
section
variable {H : Type} {enc : TypeId × Value → H} {P : Program} {w : World}
theorem exists_list {α : Type} (Q : Nat → α → Prop) : ∀ (len : Nat), (∀ i, i < len → ∃ x, Q i x) → ∃ xs : List α, xs.length = len ∧ ∀ i x, xs[i]? = some x → Q i x
 | 0, _ => ⟨[], rfl, fun i x h => by simp at h⟩
 | len + 1, h => by
  obtain ⟨xs, hl, hq⟩ := exists_list Q len (fun i hi => h i (by omega))
  obtain ⟨y, hy⟩ := h len (by omega)
  refine ⟨xs ++ [y], by simp [hl], fun i x hx => ?_⟩
  rw [List.getElem?_append] at hx
  split at hx
  · exact hq i x hx
  ·
   rename_i hge
   have : i - xs.length = 0 := by
    rcases Nat.eq_zero_or_pos (i - xs.length) with h0 | h0
    · exact h0
    · rw [List.getElem?_eq_none (by simp; omega)] at hx; cases hx
   rw [this] at hx
   simp at hx
   subst hx
   obtain rfl : i = len := by omega
   exact hy
theorem trod_float {k : FloatKind} {t : TypeId} {base fuel : Nat} {sp : Nat → Bool} {held : Bool} {cs : List Value} {x : DataW H × List MemPlace} (ht : P.underlying t = some (.float k)) (h : DataW.trod enc P w base sp held fuel t cs = some x) :
  ∃ n, cs = [.float k n] ∧ (Lit.float k n).wf = true := by
 cases fuel with
 | zero => simp [DataW.trod] at h
 | succ n =>
  unfold DataW.trod at h
  rw [ht] at h
  split at h <;> simp_all
theorem fitsT_size {n : Nat} {t : TypeId} {ft : FT} (h : fitsT P n t ft = true) : P.cellsOf t = ft.size := by
 cases n with
 | zero => simp [fitsT] at h
 | succ n =>
  unfold fitsT at h
  rw [Bool.and_eq_true] at h
  simpa using h.1
mutual
theorem rep_of_trod (base : Nat) (sp : Nat → Bool) (held : Bool) : ∀ (n : Nat) (t : TypeId) (ft : FT), fitsT P n t ft = true → ∀ (fuel : Nat) (cs : List Value) (x : DataW H × List MemPlace),
  DataW.trod enc P w base sp held fuel t cs = some x → ∃ v : ft.Val, Rep w ft v cs
 | 0, _, _, h => by simp [fitsT] at h
 | n + 1, t, ft, h => by
  intro fuel cs x hd
  have hsz := fitsT_size h
  unfold fitsT at h
  rw [Bool.and_eq_true] at h
  replace h := h.2
  split at h
  ·
   rename_i k k' hu
   obtain rfl : k = k' := by simpa using h
   obtain ⟨m, rfl, _, hw⟩ := DataW.trod_int hu hd
   exact ⟨m, rfl, hw⟩
  ·
   rename_i k k' hu
   obtain rfl : k = k' := by simpa using h
   obtain ⟨m, rfl, hw⟩ := trod_float hu hd
   exact ⟨m, rfl, hw⟩
  ·
   rename_i hu
   obtain ⟨m, rfl, _⟩ := DataW.trod_bool hu hd
   exact ⟨m, rfl⟩
  ·
   rename_i hu
   obtain ⟨m, rfl, _, hw⟩ := DataW.trod_string hu hd
   exact ⟨m, rfl, hw⟩
  ·
   rename_i e f hu
   rw [Bool.and_eq_true, decide_eq_true_eq] at h
   have hes := fitsT_size h.2
   rcases DataW.trod_slice hu hd with ⟨rfl, _⟩ | ⟨a, len, cap, elems, rest, m, _, rfl, _, hb, hl, hm, hlen, hel, _⟩
   · exact ⟨[], none, 0, rfl, by simp, fun h => by simp at h⟩
   ·
    have hex : ∀ i, i < len → ∃ y : f.Val, ∃ es : List Value, Rep w f y es ∧ es.length = f.size ∧ ∀ j u, es[j]? = some u → w.cell? (a.add (i * f.size + j)) = some u := by
     intro i hi
     have hi' := hel i hi
     rw [List.getElem?_eq_getElem (by omega), Option.bind_eq_some_iff] at hi'
     obtain ⟨es, hes', htr⟩ := hi'
     obtain ⟨y, hy⟩ := rep_of_trod base sp held n e f h.2 m es _ htr
     obtain ⟨_, hl2, hc⟩ := World.cells?_some hes'
     refine ⟨y, es, hy, hy.length, fun j u hu => ?_⟩
     have hj : j < es.length := (List.getElem?_eq_some_iff.1 hu).1
     rw [← add_of_add, ← hes, hc j (by omega), hu]
    obtain ⟨xs, hxl, hxq⟩ := exists_list _ len hex
    subst hxl
    refine ⟨xs, some a, cap, rfl, by omega, fun hn => ⟨a, rfl, ?_, hxq⟩⟩
    obtain ⟨es, he, hl2, hc⟩ := hxq 0 _ (List.getElem?_eq_getElem hn)
    have := block_lt_of_cell (hc 0 _ (List.getElem?_eq_getElem (by omega)))
    rwa [block_of_add] at this
  ·
   rename_i fs hu
   obtain ⟨xs, m, _, _, hcl, hxl, hf⟩ := DataW.trod_struct hu hd
   have := rep_of_fields base sp held m cs n fs.toList 0 _ h (fun f hmem => by
    obtain ⟨i, hi, rfl⟩ := List.getElem_of_mem hmem
    have h1 := hf i (fs.toList[i]) (by simp)
    refine ⟨xs[i]'(by simp at hi; omega), h1.trans (List.getElem?_eq_getElem _)⟩)
   rw [List.drop_zero, List.take_of_length_le (by omega)] at this
   exact this
  ·
   rename_i m' e hu
   obtain ⟨xs, m, _, _, hcl, hxl, hf⟩ := DataW.trod_array hu hd
   have := rep_of_array base sp held m cs e n m' 0 _ h (fun i _ hi => ⟨xs[i]'(by omega), (hf i (by omega)).trans (List.getElem?_eq_getElem _)⟩)
   rw [Nat.zero_mul, List.drop_zero, List.take_of_length_le (by omega)] at this
   exact this
  · cases h
theorem rep_of_fields (base : Nat) (sp : Nat → Bool) (held : Bool) (fuel : Nat) (cs : List Value) : ∀ (n : Nat) (fs : List Field) (off : Nat) (ft : FT), fitsFs P n fs off ft = true →
  (∀ f ∈ fs, ∃ x, DataW.trod enc P w base sp held fuel f.type ((cs.drop f.offset).take (P.cellsOf f.type)) = some x) → ∃ v : ft.Val, Rep w ft v ((cs.drop off).take ft.size)
 | 0, _, _, _, h => by simp [fitsFs] at h
 | _ + 1, [], _, ft, h => by
  intro _
  cases ft <;> simp [fitsFs] at h
  exact ⟨(), by simp [FT.size, Rep]⟩
 | n + 1, f :: fs, off, ft, h => by
  intro hf
  cases ft <;> simp only [fitsFs, Bool.and_eq_true, beq_iff_eq] at h
  all_goals first | (cases h; done) | skip
  rename_i a b
  obtain ⟨⟨ho, ha⟩, hb⟩ := h
  obtain ⟨x, hx⟩ := hf f (by simp)
  rw [ho, fitsT_size ha] at hx
  obtain ⟨v1, h1⟩ := rep_of_trod base sp held n f.type a ha fuel _ _ hx
  obtain ⟨v2, h2⟩ := rep_of_fields base sp held fuel cs n fs (off + a.size) b hb (fun g hg => hf g (by simp [hg]))
  refine ⟨(v1, v2), _, _, ?_, h1, h2⟩
  rw [FT.size, List.take_add, List.drop_drop]
theorem rep_of_array (base : Nat) (sp : Nat → Bool) (held : Bool) (fuel : Nat) (cs : List Value) (e : TypeId) : ∀ (n m k : Nat) (ft : FT), fitsN P n e m ft = true →
  (∀ i, k ≤ i → i < k + m → ∃ x, DataW.trod enc P w base sp held fuel e ((cs.drop (i * P.cellsOf e)).take (P.cellsOf e)) = some x) → ∃ v : ft.Val, Rep w ft v ((cs.drop (k * P.cellsOf e)).take ft.size)
 | 0, _, _, _, h => by simp [fitsN] at h
 | _ + 1, 0, _, ft, h => by
  intro _
  cases ft <;> simp [fitsN] at h
  exact ⟨(), by simp [FT.size, Rep]⟩
 | n + 1, m + 1, k, ft, h => by
  intro hf
  cases ft <;> simp only [fitsN, Bool.and_eq_true] at h
  all_goals first | (cases h; done) | skip
  rename_i a b
  obtain ⟨ha, hb⟩ := h
  obtain ⟨x, hx⟩ := hf k (Nat.le_refl _) (by omega)
  have hs := fitsT_size ha
  obtain ⟨v1, h1⟩ := rep_of_trod base sp held n e a ha fuel _ _ hx
  obtain ⟨v2, h2⟩ := rep_of_array base sp held fuel cs e n m (k + 1) b hb (fun i h1 h2 => hf i (by omega) (by omega))
  refine ⟨(v1, v2), _, _, ?_, h1, h2⟩
  rw [FT.size, ← hs, List.take_add, List.drop_drop, Nat.succ_mul]
end
def asValue (agg : Bool) (cs : List Value) : Value := if agg then .agg cs.toArray else cs.headD undef
end
end Go.Proofs.YtohapcacckapoaaGreat
namespace Go.Proofs.YtohapcacckapoaaGreat
open Go Go.RowKit
theorem flat_at {α : Type} (cells : α → List Value) (m : Nat) (hm : ∀ a, (cells a).length = m) : ∀ (l : List α) (k j : Nat) (v : α), l[k]? = some v → j < m → (l.flatMap cells)[k * m + j]? = (cells v)[j]?
 | [], k, j, v, h, _ => by simp at h
 | u :: l, 0, j, v, h, hj => by
  simp at h; subst h
  rw [List.flatMap_cons, List.getElem?_append_left (by rw [hm]; omega)]
  simp
 | u :: l, k + 1, j, v, h, hj => by
  simp at h
  have := flat_at cells m hm l k j v h hj
  rw [List.flatMap_cons, List.getElem?_append_right (by rw [hm, Nat.succ_mul]; omega), ← this, hm]
  congr 1
  rw [Nat.succ_mul]; omega
theorem flat_len {α : Type} (cells : α → List Value) (m : Nat) (hm : ∀ a, (cells a).length = m) : ∀ l : List α, (l.flatMap cells).length = l.length * m
 | [] => by simp
 | v :: l => by rw [List.flatMap_cons, List.length_append, flat_len cells m hm l, hm, List.length_cons, Nat.succ_mul]; omega
theorem Rep.reads {w : World} {t : FT} {xs : List t.Val} {cs : List Value} {α : Type} (of : t.Val → α) (cells : α → List Value) (hm : ∀ a, (cells a).length = t.size) (h1 : 0 < t.size)
  (hc : ∀ x es, Rep w t x es → es = cells (of x)) (h : Rep w (.slice t) xs cs) :
  ∃ A c, cs = [.slice A (xs.map of).length c] ∧ Reads w w.heap.size t.size A (xs.map of).length ((xs.map of).flatMap cells) ∧ (xs.map of).length ≤ maxLen := by
 obtain ⟨A, c, rfl, hl, hr⟩ := h
 refine ⟨A, c, by rw [List.length_map], ⟨flat_len cells _ hm _, fun hn => ?_⟩, by rw [List.length_map]; exact hl⟩
 rw [List.length_map] at hn
 obtain ⟨ad, rfl, hb, hx⟩ := hr hn
 refine ⟨ad, rfl, hb, fun j u hu => ?_⟩
 have hj : j < xs.length * t.size := by
  have := (List.getElem?_eq_some_iff.1 hu).1
  rwa [flat_len cells _ hm, List.length_map] at this
 have hi : j / t.size < xs.length := Nat.div_lt_of_lt_mul (by rwa [Nat.mul_comm] at hj)
 have hmod : j % t.size < t.size := Nat.mod_lt _ h1
 obtain ⟨es, he, hes, hcell⟩ := hx _ _ (List.getElem?_eq_getElem hi)
 have e := hc _ _ he
 subst e
 have hj2 : j / t.size * t.size + j % t.size = j := by rw [Nat.mul_comm]; exact Nat.div_add_mod j _
 have := flat_at cells t.size hm (xs.map of) (j / t.size) (j % t.size) (of (xs[j / t.size])) (by rw [List.getElem?_map, List.getElem?_eq_getElem hi]; rfl) hmod
 rw [hj2, hu] at this
 have := hcell _ u this.symm
 rwa [hj2] at this
@[reducible] def adrFT : FT := .pair .bool (.pair (.int .u64) (.pair (.int .u64) .unit))
end Go.Proofs.YtohapcacckapoaaGreat
