/- Plain law: addresses as bytes and as text. -/
import Derived.Test.YtodbgjnccngljaaGreatDoorJ1
import Derived.Test.YtodbgjnccngljaaGreatDoorJ11
namespace Go.Proofs.YtodbgjnccngljaaGreatDoor
open Go
def numB (l : List UInt8) : Nat := l.foldl (fun n c => n * 256 + c.toNat) 0
theorem numB_snoc (l : List UInt8) (c : UInt8) : numB (l ++ [c]) = numB l * 256 + c.toNat := by unfold numB; rw [List.foldl_append]; rfl
theorem foldB (l : List UInt8) : ∀ n, l.foldl (fun n c => n * 256 + c.toNat) n = n * 256 ^ l.length + numB l := by
 induction l with
 | nil => intro n; simp [numB]
 | cons c l ih =>
  intro n
  unfold numB
  rw [List.foldl_cons, List.foldl_cons, ih, ih (0 * 256 + c.toNat), List.length_cons, Nat.pow_succ]
  rw [Nat.zero_mul, Nat.zero_add, Nat.add_mul, Nat.mul_assoc, Nat.mul_comm (256 ^ l.length) 256]
  omega
theorem numB_cons (c : UInt8) (l : List UInt8) : numB (c :: l) = c.toNat * 256 ^ l.length + numB l := by
 show l.foldl (fun n c => n * 256 + c.toNat) (0 * 256 + c.toNat) = _
 rw [foldB]; simp
theorem numB_lt (l : List UInt8) : numB l < 256 ^ l.length := by
 induction l with
 | nil => simp [numB]
 | cons c l ih =>
  rw [numB_cons, List.length_cons, Nat.pow_succ]
  have hc : c.toNat < 256 := c.toNat_lt
  have : c.toNat * 256 ^ l.length ≤ 255 * 256 ^ l.length := Nat.mul_le_mul_right _ (by omega)
  omega
theorem octB_add (a : Nat) : ∀ (k x : Nat), octB (a * 256 ^ k + x) k = octB x k
 | 0, x => rfl
 | k + 1, x => by
  rw [octB_succ, octB_succ]
  have hp : 0 < 256 ^ k := Nat.pow_pos (by decide)
  have e : a * 256 ^ (k + 1) + x = (a * 256) * 256 ^ k + x := by rw [Nat.pow_succ, Nat.mul_assoc, Nat.mul_comm (256 ^ k) 256]
  rw [e, octB_add (a * 256) k x]
  congr 1
  rw [Nat.add_comm, Nat.add_mul_div_right _ _ hp]
  apply UInt8.toNat_inj.1
  rw [UInt8.toNat_ofNat', UInt8.toNat_ofNat']
  omega
theorem octB_numB (l : List UInt8) : octB (numB l) l.length = l := by
 induction l with
 | nil => rfl
 | cons c l ih =>
  have hp : 0 < 256 ^ l.length := Nat.pow_pos (by decide)
  have hl := numB_lt l
  rw [numB_cons, List.length_cons, octB_succ, octB_add, ih]
  congr 1
  rw [Nat.add_comm, Nat.add_mul_div_right _ _ hp, Nat.div_eq_of_lt hl]
  simp
theorem numB_octB : ∀ (k m : Nat), m < 256 ^ k → numB (octB m k) = m
 | 0, m, h => by
  obtain rfl : m = 0 := by simpa using h
  rfl
 | k + 1, m, h => by
  have hp : 0 < 256 ^ k := Nat.pow_pos (by decide)
  have hq : m / 256 ^ k < 256 := by rw [Nat.div_lt_iff_lt_mul hp]; rw [Nat.pow_succ] at h; omega
  have hm := Nat.div_add_mod m (256 ^ k)
  have e : octB m k = octB (m % 256 ^ k) k := by
   have := octB_add (m / 256 ^ k) k (m % 256 ^ k)
   rw [Nat.mul_comm, hm] at this
   exact this
  rw [octB_succ, numB_cons, octB_len, UInt8.toNat_ofNat', Nat.mod_eq_of_lt (by omega), e, numB_octB k _ (Nat.mod_lt _ hp), Nat.mul_comm]
  exact hm
def adrIn (v : Bool) (hi lo : Nat) : Prop := adrOk v hi lo = true ∧ hi < 18446744073709551616 ∧ lo < 18446744073709551616
def getA (b : List UInt8) : Option (Bool × Nat × Nat) :=
 if b.length = 4 then some (false, 0, numB b) else if b.length = 16 then some (true, numB (b.take 8), numB (b.drop 8)) else none
theorem adrIn_four {hi lo : Nat} (h : adrOk false hi lo = true) : hi = 0 ∧ lo < 4294967296 := by
 simpa [adrOk] using h
theorem getA_put {v : Bool} {hi lo : Nat} (h : adrIn v hi lo) : getA (adrPut v hi lo) = some (v, hi, lo) := by
 obtain ⟨h1, h2, h3⟩ := h
 unfold adrPut
 rw [if_pos h1]
 cases v
 ·
  obtain ⟨rfl, hl⟩ := adrIn_four h1
  simp only [Bool.false_eq_true, if_false]
  unfold getA
  rw [if_pos (octB_len _ _), numB_octB 4 _ (by simpa using hl)]
 ·
  simp only [if_true]
  have l1 := octB_len hi 8
  have l2 := octB_len lo 8
  unfold getA
  rw [if_neg (by simp [l1, l2]), if_pos (by simp [l1, l2]), List.take_left' l1, List.drop_left' l1, numB_octB 8 _ (by simpa using h2), numB_octB 8 _ (by simpa using h3)]
theorem put_getA {b : List UInt8} {v : Bool} {hi lo : Nat} (h : getA b = some (v, hi, lo)) : adrPut v hi lo = b ∧ adrIn v hi lo := by
 unfold getA at h
 split at h
 ·
  rename_i hl
  simp only [Option.some.injEq, Prod.mk.injEq] at h
  obtain ⟨rfl, rfl, rfl⟩ := h
  have hb := numB_lt b
  rw [hl] at hb
  have hb2 : numB b < 4294967296 := by simpa using hb
  have ok : adrOk false 0 (numB b) = true := by simp [adrOk, hb2]
  refine ⟨?_, ok, by decide, by omega⟩
  unfold adrPut
  rw [if_pos ok]
  have := octB_numB b
  rw [hl] at this
  exact this
 ·
  split at h
  ·
   rename_i hl
   simp only [Option.some.injEq, Prod.mk.injEq] at h
   obtain ⟨rfl, rfl, rfl⟩ := h
   have l1 : (b.take 8).length = 8 := by simp [hl]
   have l2 : (b.drop 8).length = 8 := by simp [hl]
   have b1 := numB_lt (b.take 8)
   have b2 := numB_lt (b.drop 8)
   rw [l1] at b1
   rw [l2] at b2
   refine ⟨?_, by simp [adrOk], by simpa using b1, by simpa using b2⟩
   unfold adrPut
   rw [if_pos (by simp [adrOk])]
   have e1 := octB_numB (b.take 8)
   have e2 := octB_numB (b.drop 8)
   rw [l1] at e1
   rw [l2] at e2
   simp only [if_true]
   rw [e1, e2, List.take_append_drop]
  · cases h
def dec3 (n : Nat) : List UInt8 :=
 if n < 10 then [UInt8.ofNat (48 + n)] else if n < 100 then [UInt8.ofNat (48 + n / 10), UInt8.ofNat (48 + n % 10)]
 else [UInt8.ofNat (48 + n / 100), UInt8.ofNat (48 + n / 10 % 10), UInt8.ofNat (48 + n % 10)]
theorem dec3_eq {n : Nat} (h : n < 1000) : Lib.decDigits n = dec3 n := by
 unfold dec3
 by_cases h1 : n < 10
 · rw [if_pos h1, Lib.decDigits_one h1]
 ·
  rw [if_neg h1]
  by_cases h2 : n < 100
  · rw [if_pos h2, Lib.decDigits_two h1 h2]
  · rw [if_neg h2, decDigits_big h1, Lib.decDigits_two (by omega) (by omega), show n / 10 / 10 = n / 100 by omega]; rfl
def prs : List UInt8 → List (List UInt8)
 | x :: y :: r => [x, y] :: prs r
 | _ => []
def txt4 (b : List UInt8) : List UInt8 := Lib.join (b.map fun c => dec3 c.toNat) [46]
def txt6 (b : List UInt8) : List UInt8 := Lib.join ((prs b).map hexL) [58]
def adrTxt (v : Bool) (hi lo : Nat) : List UInt8 := let b := adrPut v hi lo; if b.length = 4 then txt4 b else if b.length = 16 then txt6 b else []
def partN : List UInt8 → Nat → Option Nat
 | [], n => some n
 | c :: r, n => if c.toNat < 48 ∨ 57 < c.toNat ∨ 255 < n then none else partN r (10 * n + (c.toNat - 48))
def partL (s : List UInt8) : Option (List UInt8) := match partN s 0 with
 | none => none
 | some n => if n ≤ 255 ∧ dec3 n = s then some [UInt8.ofNat n] else none
def grpL (s : List UInt8) : Option (List UInt8) := match unhexL s with
 | none => none
 | some b => if b.length = 2 then some b else none
def allP (f : List UInt8 → Option (List UInt8)) : List (List UInt8) → Option (List UInt8)
 | [] => some []
 | w :: r => match f w with
  | none => none
  | some b => (allP f r).map (b ++ ·)
def joinedL (s : List UInt8) (sep : UInt8) (n : Nat) (f : List UInt8 → Option (List UInt8)) : Option (Bool × Nat × Nat) :=
 if (parts sep s).length = n then (allP f (parts sep s)).bind getA else none
def readA (s : List UInt8) : Option (Bool × Nat × Nat) := match joinedL s 46 4 partL with
 | some a => some a
 | none => joinedL s 58 8 grpL
theorem partN_dec3_fin : ∀ n : Fin 256, partL (dec3 n.val) = some [UInt8.ofNat n.val] := by decide +kernel
theorem partL_dec3 (c : UInt8) : partL (dec3 c.toNat) = some [c] := by
 have := partN_dec3_fin ⟨c.toNat, c.toNat_lt⟩
 simpa using this
theorem partL_inv {s b : List UInt8} (h : partL s = some b) : ∃ c, b = [c] ∧ s = dec3 c.toNat := by
 unfold partL at h
 split at h
 · cases h
 ·
  split at h
  ·
   rename_i n _ hn
   obtain rfl := Option.some.inj h
   refine ⟨UInt8.ofNat n, rfl, ?_⟩
   rw [UInt8.toNat_ofNat', Nat.mod_eq_of_lt (by omega), hn.2]
  · cases h
theorem grpL_hex {p : List UInt8} (h : p.length = 2) : grpL (hexL p) = some p := by
 unfold grpL; rw [unhex_hex]; simp [h]
theorem grpL_inv {s b : List UInt8} (h : grpL s = some b) : b.length = 2 ∧ s = hexL b := by
 unfold grpL at h
 split at h
 · cases h
 ·
  rename_i t ht
  split at h
  ·
   obtain rfl := Option.some.inj h
   exact ⟨by assumption, (hex_unhex _ _ ht).symm⟩
  · cases h
theorem allP_map {f : List UInt8 → Option (List UInt8)} {g : List UInt8 → List UInt8} : ∀ bs : List (List UInt8), (∀ x ∈ bs, f (g x) = some x) → allP f (bs.map g) = some bs.flatten
 | [], _ => rfl
 | x :: r, h => by
  rw [List.map_cons, allP, h x (by simp), allP_map r (fun y hy => h y (by simp [hy]))]; rfl
theorem allP_inv {f : List UInt8 → Option (List UInt8)} {g : List UInt8 → List UInt8} {Q : List UInt8 → Prop} (hf : ∀ s b, f s = some b → Q b ∧ s = g b) :
  ∀ (ws : List (List UInt8)) b, allP f ws = some b → ∃ bs : List (List UInt8), b = bs.flatten ∧ ws = bs.map g ∧ ∀ x ∈ bs, Q x
 | [], b, h => ⟨[], by obtain rfl := Option.some.inj h; exact ⟨rfl, rfl, fun x hx => by cases hx⟩⟩
 | w :: r, b, h => by
  unfold allP at h
  cases hw : f w with
  | none => rw [hw] at h; cases h
  | some c =>
   rw [hw] at h
   cases hr : allP f r with
   | none => rw [hr] at h; cases h
   | some d =>
    rw [hr] at h
    obtain rfl := Option.some.inj h
    obtain ⟨bs, h1, h2, h3⟩ := allP_inv hf r d hr
    obtain ⟨q1, q2⟩ := hf w c hw
    refine ⟨c :: bs, by rw [h1]; rfl, by rw [h2, q2]; rfl, ?_⟩
    intro x hx
    rcases List.mem_cons.1 hx with rfl | hx
    · exact q1
    · exact h3 x hx
theorem prs_flatten : ∀ bs : List (List UInt8), (∀ x ∈ bs, x.length = 2) → prs bs.flatten = bs
 | [], _ => rfl
 | x :: r, h => by
  have hx := h x (by simp)
  match x, hx with
  | [a, b], _ =>
   show [a, b] :: prs r.flatten = _
   rw [prs_flatten r (fun y hy => h y (by simp [hy]))]
theorem flatten_prs : ∀ (n : Nat) (b : List UInt8), b.length = 2 * n → (prs b).flatten = b ∧ (prs b).length = n ∧ ∀ x ∈ prs b, x.length = 2
 | 0, b, h => by
  obtain rfl : b = [] := List.length_eq_zero_iff.1 (by omega)
  exact ⟨rfl, rfl, fun x hx => by cases hx⟩
 | n + 1, b, h => by
  match b, h with
  | x :: y :: r, h =>
   obtain ⟨h1, h2, h3⟩ := flatten_prs n r (by simp at h; omega)
   refine ⟨by show [x, y] ++ (prs r).flatten = _; rw [h1]; rfl, by show (prs r).length + 1 = _; rw [h2], ?_⟩
   intro z hz
   rcases List.mem_cons.1 hz with rfl | hz
   · rfl
   · exact h3 z hz
theorem prs_at : ∀ (i : Nat) (b : List UInt8), 2 * i + 2 ≤ b.length → (prs b)[i]? = some ((b.drop (2 * i)).take 2)
 | i, [], h => by simp at h
 | i, [_], h => by simp at h
 | 0, x :: y :: r, h => rfl
 | i + 1, x :: y :: r, h => by
  show (prs r)[i]? = _
  rw [prs_at i r (by simp at h; omega)]
  rfl
theorem one_map (b : List UInt8) : (b.map fun c => [c]).flatten = b := by
 induction b with
 | nil => rfl
 | cons c r ih => simp only [List.map_cons, List.flatten_cons, ih]; rfl
theorem dec3_isDig (c : UInt8) : ∀ d ∈ dec3 c.toNat, isDig d := by
 rw [← dec3_eq (by have := c.toNat_lt; omega)]; exact dec_isDig _
theorem readA_txt {v : Bool} {hi lo : Nat} (h : adrIn v hi lo) : readA (adrTxt v hi lo) = some (v, hi, lo) := by
 have hg := getA_put h
 unfold adrTxt
 obtain ⟨b, hb⟩ : ∃ b, adrPut v hi lo = b := ⟨_, rfl⟩
 rw [hb] at hg ⊢
 have hl : b.length = 4 ∨ b.length = 16 := by
  unfold getA at hg
  split at hg
  · exact Or.inl (by assumption)
  ·
   split at hg
   · exact Or.inr (by assumption)
   · cases hg
 have hm4 : ∀ x ∈ b.map (fun c => dec3 c.toNat), (46 : UInt8) ∉ x := by
  intro x hx
  obtain ⟨c, _, rfl⟩ := List.mem_map.1 hx
  intro h46
  have := dec3_isDig c _ h46
  unfold isDig at this
  exact absurd this.1 (by decide)
 have hm6 : ∀ d, (d = 46 ∨ d = 58) → ∀ x ∈ (prs b).map hexL, d ∉ x := by
  intro d hd x hx
  obtain ⟨c, _, rfl⟩ := List.mem_map.1 hx
  intro h46
  have := hexL_isHex c _ h46
  unfold isHex at this
  rcases hd with rfl | rfl <;> exact absurd this (by decide)
 rcases hl with hl | hl
 ·
  simp only [hl, if_true]
  have hp : parts 46 (txt4 b) = b.map fun c => dec3 c.toNat := parts_join 46 _ (by intro e; rw [List.map_eq_nil_iff] at e; rw [e] at hl; cases hl) hm4
  have hall : allP partL (b.map fun c => dec3 c.toNat) = some b := by
   have := allP_map (f := partL) (g := fun x => dec3 (numB x)) (b.map fun c => [c]) (by
    intro x hx
    obtain ⟨c, _, rfl⟩ := List.mem_map.1 hx
    show partL (dec3 (0 * 256 + c.toNat)) = _
    rw [Nat.zero_mul, Nat.zero_add]
    exact partL_dec3 c)
   rw [one_map, List.map_map] at this
   rw [← this]
   congr 1
   refine List.map_congr_left fun c _ => ?_
   show dec3 c.toNat = dec3 (0 * 256 + c.toNat)
   rw [Nat.zero_mul, Nat.zero_add]
  unfold readA joinedL
  rw [hp, if_pos (by simp [hl]), hall]
  simp only [Option.bind_some, hg]
 ·
  have hne : ¬ b.length = 4 := by omega
  obtain ⟨f1, f2, f3⟩ := flatten_prs 8 b (by omega)
  rw [if_neg hne, if_pos hl]
  have hne2 : (prs b).map hexL ≠ [] := by
   intro e
   rw [List.map_eq_nil_iff] at e
   rw [e] at f2
   cases f2
  have hp : parts 58 (txt6 b) = (prs b).map hexL := parts_join 58 _ hne2 (hm6 58 (Or.inr rfl))
  have h46 : parts 46 (txt6 b) = [txt6 b] := parts_none 46 _ (by
   intro e
   rcases mem_join 58 46 _ e with e | ⟨x, hx, e⟩
   · cases e
   · exact hm6 46 (Or.inl rfl) x hx e)
  have hall : allP grpL ((prs b).map hexL) = some b := by
   rw [allP_map (prs b) (fun x hx => grpL_hex (f3 x hx)), f1]
  unfold readA joinedL
  rw [h46, if_neg (by simp), hp, if_pos (by simp [f2]), hall]
  exact hg
theorem txt_readA {s : List UInt8} {v : Bool} {hi lo : Nat} (h : readA s = some (v, hi, lo)) : adrIn v hi lo ∧ adrTxt v hi lo = s := by
 have key : ∀ b : List UInt8, getA b = some (v, hi, lo) → (b.length = 4 → txt4 b = s) → (b.length = 16 → txt6 b = s) → adrIn v hi lo ∧ adrTxt v hi lo = s := by
  intro b hg h4 h16
  obtain ⟨e, hin⟩ := put_getA hg
  refine ⟨hin, ?_⟩
  unfold adrTxt
  rw [e]
  unfold getA at hg
  split at hg
  ·
   rename_i hl
   simp only [hl, if_true]; exact h4 hl
  ·
   rename_i hn
   split at hg
   ·
    rename_i hl
    rw [if_neg hn, if_pos hl]; exact h16 hl
   · cases hg
 unfold readA at h
 split at h
 ·
  rename_i a ha
  obtain rfl := Option.some.inj h
  unfold joinedL at ha
  split at ha
  ·
   rename_i hl
   cases hb : allP partL (parts 46 s) with
   | none => rw [hb] at ha; cases ha
   | some b =>
    rw [hb] at ha
    obtain ⟨bs, h1, h2, h3⟩ := allP_inv (g := fun x => dec3 (numB x)) (Q := fun x => x.length = 1) (fun s b h => by
     obtain ⟨c, rfl, rfl⟩ := partL_inv h
     refine ⟨rfl, ?_⟩
     show dec3 c.toNat = dec3 (0 * 256 + c.toNat)
     rw [Nat.zero_mul, Nat.zero_add]) _ _ hb
    have hlen : ∀ bs : List (List UInt8), (∀ x ∈ bs, x.length = 1) → bs.flatten.map (fun c => dec3 c.toNat) = bs.map (fun x => dec3 (numB x)) ∧ bs.flatten.length = bs.length := by
     intro bs
     induction bs with
     | nil => intro _; exact ⟨rfl, rfl⟩
     | cons x r ih =>
      intro hx
      obtain ⟨i1, i2⟩ := ih (fun y hy => hx y (by simp [hy]))
      match x, hx x (by simp) with
      | [c], _ =>
       refine ⟨?_, by simp [i2]⟩
       show dec3 c.toNat :: r.flatten.map (fun c => dec3 c.toNat) = dec3 (0 * 256 + c.toNat) :: r.map fun x => dec3 (numB x)
       rw [i1, Nat.zero_mul, Nat.zero_add]
    obtain ⟨e1, e2⟩ := hlen bs h3
    have hl4 : b.length = 4 := by rw [h1, e2]; rw [h2] at hl; simpa using hl
    refine key b ha (fun _ => ?_) (fun h16 => by omega)
    unfold txt4
    rw [h1, e1, ← h2, join_parts]
  · cases ha
 ·
  unfold joinedL at h
  split at h
  ·
   rename_i hl
   cases hb : allP grpL (parts 58 s) with
   | none => rw [hb] at h; cases h
   | some b =>
    rw [hb] at h
    obtain ⟨bs, h1, h2, h3⟩ := allP_inv (g := hexL) (Q := fun x => x.length = 2) (fun s b h => grpL_inv h) _ _ hb
    have hlen : ∀ bs : List (List UInt8), (∀ x ∈ bs, x.length = 2) → bs.flatten.length = 2 * bs.length := by
     intro bs
     induction bs with
     | nil => intro _; rfl
     | cons x r ih =>
      intro hx
      have i2 := ih (fun y hy => hx y (by simp [hy]))
      have hx2 := hx x (by simp)
      simp [i2, hx2]; omega
    have hl16 : b.length = 16 := by rw [h1, hlen bs h3]; rw [h2] at hl; simp at hl; omega
    refine key b h (fun h4 => by omega) (fun _ => ?_)
    unfold txt6
    rw [h1, prs_flatten bs h3, ← h2, join_parts]
  · cases h
theorem readA_iff {s : List UInt8} {v : Bool} {hi lo : Nat} : readA s = some (v, hi, lo) ↔ adrIn v hi lo ∧ adrTxt v hi lo = s :=
 ⟨txt_readA, fun ⟨h1, h2⟩ => h2 ▸ readA_txt h1⟩
example : readA [49, 46, 50, 46, 51, 46, 52] = some (false, 0, 16909060) := by decide +kernel
example : readA [49, 46, 50, 46, 51, 46, 48, 52] = none := by decide +kernel
example : readA [48, 58, 48, 58, 48, 58, 48, 58, 48, 58, 48, 58, 48, 58, 49] = none := by decide +kernel
end Go.Proofs.YtodbgjnccngljaaGreatDoor
