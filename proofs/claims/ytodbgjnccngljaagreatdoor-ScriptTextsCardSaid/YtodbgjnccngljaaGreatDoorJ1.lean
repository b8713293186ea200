/- Plain law: a text's parts, hexadecimal digits, decimal digits. -/
import Derived.Lib.Join
import Derived.Lib.Split
import Derived.Lib.ItoaNum
namespace Go.Proofs.YtodbgjnccngljaaGreatDoor
open Go
def parts (c : UInt8) : List UInt8 → List (List UInt8)
 | [] => [[]]
 | x :: r => if x = c then [] :: parts c r else (x :: (parts c r).headD []) :: (parts c r).tail
theorem parts_cons (c : UInt8) : ∀ s, ∃ p ps, parts c s = p :: ps
 | [] => ⟨_, _, rfl⟩
 | x :: r => by unfold parts; split <;> exact ⟨_, _, rfl⟩
theorem parts_hit (c : UInt8) : ∀ a b, c ∉ a → parts c (a ++ c :: b) = a :: parts c b
 | [], b, _ => by simp [parts]
 | x :: r, b, h => by
  have hx : x ≠ c := fun e => h (by simp [e])
  have ih := parts_hit c r b (fun e => h (by simp [e]))
  rw [List.cons_append, parts, if_neg hx, ih]; rfl
theorem parts_none (c : UInt8) : ∀ a, c ∉ a → parts c a = [a]
 | [], _ => rfl
 | x :: r, h => by
  have hx : x ≠ c := fun e => h (by simp [e])
  have ih := parts_none c r (fun e => h (by simp [e]))
  rw [parts, if_neg hx, ih]; rfl
theorem not_mem_parts (c : UInt8) : ∀ s, ∀ x ∈ parts c s, c ∉ x
 | [], x, h => by simp [parts] at h; simp [h]
 | y :: r, x, h => by
  obtain ⟨p, ps, e⟩ := parts_cons c r
  have ih := not_mem_parts c r
  unfold parts at h
  rw [e] at h ih
  split at h
  ·
   rcases List.mem_cons.1 h with rfl | h
   · simp
   · exact ih x h
  ·
   rename_i hy
   rcases List.mem_cons.1 h with rfl | h
   ·
    intro hc
    rcases List.mem_cons.1 hc with rfl | hc
    · exact hy rfl
    · exact ih p (by simp) hc
   · exact ih x (by simpa using Or.inr h)
theorem join_cons2 (x y : List UInt8) (r : List (List UInt8)) (c : UInt8) : Lib.join (x :: y :: r) [c] = x ++ c :: Lib.join (y :: r) [c] := by
 rw [Lib.join_cons, Lib.join_cons]; simp [Lib.joinTail]
theorem join_head (x : UInt8) (p : List UInt8) (ps : List (List UInt8)) (sep : List UInt8) : Lib.join ((x :: p) :: ps) sep = x :: Lib.join (p :: ps) sep := by
 rw [Lib.join_cons, Lib.join_cons]; rfl
theorem join_parts (c : UInt8) : ∀ s, Lib.join (parts c s) [c] = s
 | [] => by simp [parts, Lib.join_one]
 | x :: r => by
  obtain ⟨p, ps, e⟩ := parts_cons c r
  have ih := join_parts c r
  unfold parts
  rw [e] at ih ⊢
  split
  ·
   rename_i h; subst h
   rw [join_cons2, ih]; rfl
  · rw [List.headD_cons, List.tail_cons, join_head, ih]
theorem parts_join (c : UInt8) : ∀ (xs : List (List UInt8)), xs ≠ [] → (∀ x ∈ xs, c ∉ x) → parts c (Lib.join xs [c]) = xs
 | [], h, _ => absurd rfl h
 | [x], _, h => by rw [Lib.join_one, parts_none c x (h x (by simp))]
 | x :: y :: r, _, h => by
  rw [join_cons2, parts_hit c _ _ (h x (by simp)), parts_join c (y :: r) (by simp) (fun z hz => h z (by simp at hz ⊢; exact Or.inr hz))]
theorem mem_join (c d : UInt8) : ∀ (xs : List (List UInt8)), d ∈ Lib.join xs [c] → d = c ∨ ∃ x ∈ xs, d ∈ x
 | [], h => by simp [Lib.join_nil] at h
 | [x], h => by rw [Lib.join_one] at h; exact Or.inr ⟨x, by simp, h⟩
 | x :: y :: r, h => by
  rw [join_cons2] at h
  rcases List.mem_append.1 h with h | h
  · exact Or.inr ⟨x, by simp, h⟩
  ·
   rcases List.mem_cons.1 h with h | h
   · exact Or.inl h
   ·
    rcases mem_join c d (y :: r) h with h | ⟨z, hz, h⟩
    · exact Or.inl h
    · exact Or.inr ⟨z, List.mem_cons_of_mem _ hz, h⟩
theorem occ_one (s : List UInt8) (c : UInt8) (i : Nat) : Lib.occAt s [c] i = true ↔ s[i]? = some c := by
 unfold Lib.occAt
 rw [← List.head?_drop]
 cases h : s.drop i with
 | nil => simp [List.isPrefixOf]
 | cons a t => simp [List.isPrefixOf]; exact eq_comm
theorem splitK_eq (c : UInt8) : ∀ (n : Nat) (s : List UInt8), s.length ≤ n → Lib.splitK [c] 0 (Lib.count s [c]) s = parts c s := by
 intro n
 induction n with
 | zero =>
  intro s hs
  obtain rfl : s = [] := List.length_eq_zero_iff.1 (by omega)
  rfl
 | succ n ih =>
  intro s hs
  rcases Lib.index_spec s [c] with ⟨h1, h2⟩ | ⟨i, h1, h2, h3, h4⟩
  ·
   rw [Lib.count_miss h1]
   have hc : c ∉ s := fun e => by
    obtain ⟨j, hj⟩ := List.mem_iff_getElem?.1 e
    have := (occ_one s c j).2 hj
    have hlt : j < s.length := (List.getElem?_eq_some_iff.1 hj).1
    rw [h2 j (by omega)] at this
    cases this
   rw [parts_none c s hc]; rfl
  ·
   rw [Lib.count_hit (by simp) h1, Nat.add_comm]
   have hi := (occ_one s c i).1 h3
   have hlt : i < s.length := (List.getElem?_eq_some_iff.1 hi).1
   have hcut : s = s.take i ++ c :: s.drop (i + 1) := by
    have e1 := (List.take_append_drop i s).symm
    rw [List.drop_eq_getElem_cons hlt] at e1
    rw [(List.getElem?_eq_some_iff.1 hi).2] at e1
    exact e1
   have hc : c ∉ s.take i := fun e => by
    obtain ⟨j, hj⟩ := List.mem_iff_getElem?.1 e
    have hj' : j < i := by
     have := (List.getElem?_eq_some_iff.1 hj).1
     simp at this; omega
    rw [List.getElem?_take_of_lt hj'] at hj
    have := (occ_one s c j).2 hj
    rw [h4 j hj'] at this
    cases this
   have hm : ¬ (Lib.index s [c] == -1) = true := fun e => by have := beq_iff_eq.1 e; omega
   rw [Lib.splitK, if_neg hm, h1]
   rw [show ((i : Int).toNat + 0) = i by omega, show ((i : Int).toNat + [c].length) = i + 1 by simp, show i + [c].length = i + 1 from rfl]
   rw [ih (s.drop (i + 1)) (by simp; omega), ← parts_hit c _ _ hc, ← hcut]
def hexd (n : Nat) : UInt8 := UInt8.ofNat (if n < 10 then 48 + n else 87 + n)
def hexL (l : List UInt8) : List UInt8 := l.flatMap fun c => [hexd (c.toNat / 16), hexd (c.toNat % 16)]
def hexv (c : UInt8) : Option Nat := if 48 ≤ c.toNat ∧ c.toNat ≤ 57 then some (c.toNat - 48) else if 97 ≤ c.toNat ∧ c.toNat ≤ 102 then some (c.toNat - 87) else none
def unhexL : List UInt8 → Option (List UInt8)
 | [] => some []
 | [_] => none
 | x :: y :: r => match hexv x, hexv y with
  | some a, some b => (unhexL r).map (UInt8.ofNat (16 * a + b) :: ·)
  | _, _ => none
theorem hexL_cons (c : UInt8) (l : List UInt8) : hexL (c :: l) = hexd (c.toNat / 16) :: hexd (c.toNat % 16) :: hexL l := rfl
theorem hexL_len (l : List UInt8) : (hexL l).length = 2 * l.length := by
 induction l with
 | nil => rfl
 | cons c l ih => rw [hexL_cons]; simp; omega
theorem hexv_hexd_fin : ∀ n : Fin 16, hexv (hexd n.val) = some n.val := by decide +kernel
theorem hexv_hexd {n : Nat} (h : n < 16) : hexv (hexd n) = some n := hexv_hexd_fin ⟨n, h⟩
theorem hexd_hexv {c : UInt8} {n : Nat} (h : hexv c = some n) : hexd n = c ∧ n < 16 := by
 unfold hexv at h
 split at h
 ·
  rename_i hc
  obtain rfl := Option.some.inj h
  refine ⟨?_, by omega⟩
  unfold hexd; rw [if_pos (by omega), show 48 + (c.toNat - 48) = c.toNat by omega]; simp
 ·
  split at h
  ·
   rename_i hc
   obtain rfl := Option.some.inj h
   refine ⟨?_, by omega⟩
   unfold hexd; rw [if_neg (by omega), show 87 + (c.toNat - 87) = c.toNat by omega]; simp
  · cases h
theorem unhex_hex : ∀ l, unhexL (hexL l) = some l
 | [] => rfl
 | c :: l => by
  have hc : c.toNat < 256 := c.toNat_lt
  rw [hexL_cons, unhexL, hexv_hexd (by omega), hexv_hexd (by omega)]
  simp only [unhex_hex l, Option.map_some]
  rw [show 16 * (c.toNat / 16) + c.toNat % 16 = c.toNat by omega]; simp
theorem hex_unhex : ∀ s b, unhexL s = some b → hexL b = s
 | [], b, h => by obtain rfl := Option.some.inj h; rfl
 | [_], b, h => by cases h
 | x :: y :: r, b, h => by
  unfold unhexL at h
  split at h
  ·
   rename_i a c hx hy
   obtain ⟨hx1, hx2⟩ := hexd_hexv hx
   obtain ⟨hy1, hy2⟩ := hexd_hexv hy
   cases hr : unhexL r with
   | none => rw [hr] at h; cases h
   | some t =>
    rw [hr] at h
    obtain rfl := Option.some.inj h
    rw [hexL_cons, hex_unhex r t hr]
    have e : (UInt8.ofNat (16 * a + c)).toNat = 16 * a + c := by rw [UInt8.toNat_ofNat']; omega
    rw [e, show (16 * a + c) / 16 = a by omega, show (16 * a + c) % 16 = c by omega, hx1, hy1]
  · cases h
theorem unhexL_len : ∀ s b, unhexL s = some b → s.length = 2 * b.length := fun s b h => by rw [← hex_unhex s b h, hexL_len]
def isHex (c : UInt8) : Prop := (48 ≤ c.toNat ∧ c.toNat ≤ 57) ∨ (97 ≤ c.toNat ∧ c.toNat ≤ 102)
theorem hexd_isHex_fin : ∀ n : Fin 16, (48 ≤ (hexd n.val).toNat ∧ (hexd n.val).toNat ≤ 57) ∨ (97 ≤ (hexd n.val).toNat ∧ (hexd n.val).toNat ≤ 102) := by decide +kernel
theorem hexL_isHex : ∀ l, ∀ c ∈ hexL l, isHex c
 | [], c, h => by cases h
 | a :: l, c, h => by
  have ha : a.toNat < 256 := a.toNat_lt
  rw [hexL_cons] at h
  rcases List.mem_cons.1 h with rfl | h
  · exact hexd_isHex_fin ⟨a.toNat / 16, by omega⟩
  ·
   rcases List.mem_cons.1 h with rfl | h
   · exact hexd_isHex_fin ⟨a.toNat % 16, by omega⟩
   · exact hexL_isHex l c h
def decV (l : List UInt8) : Nat := l.foldl (fun n c => 10 * n + (c.toNat - 48)) 0
def isDig (c : UInt8) : Prop := 48 ≤ c.toNat ∧ c.toNat ≤ 57
theorem decDigits_big {u : Nat} (h : ¬ u < 10) : Lib.decDigits u = Lib.decDigits (u / 10) ++ [UInt8.ofNat (48 + u % 10)] := by rw [Lib.decDigits, dif_neg h]
theorem dig_toNat {k : Nat} (h : k < 10) : (UInt8.ofNat (48 + k)).toNat = 48 + k := by rw [UInt8.toNat_ofNat']; omega
theorem decV_dec (u : Nat) : decV (Lib.decDigits u) = u := by
 induction u using Nat.strongRecOn with
 | _ u ih =>
  by_cases h : u < 10
  · rw [Lib.decDigits_one h]; show 10 * 0 + ((UInt8.ofNat (48 + u)).toNat - 48) = u; rw [dig_toNat h]; omega
  ·
   rw [decDigits_big h]
   have := ih (u / 10) (by omega)
   unfold decV at this ⊢
   rw [List.foldl_append, this]
   show 10 * (u / 10) + ((UInt8.ofNat (48 + u % 10)).toNat - 48) = u
   rw [dig_toNat (by omega)]; omega
theorem dec_isDig (u : Nat) : ∀ c ∈ Lib.decDigits u, isDig c := by
 induction u using Nat.strongRecOn with
 | _ u ih =>
  intro c hc
  by_cases h : u < 10
  ·
   rw [Lib.decDigits_one h] at hc
   obtain rfl := List.mem_singleton.1 hc
   unfold isDig; rw [dig_toNat h]; omega
  ·
   rw [decDigits_big h] at hc
   rcases List.mem_append.1 hc with hc | hc
   · exact ih _ (by omega) c hc
   ·
    obtain rfl := List.mem_singleton.1 hc
    unfold isDig; rw [dig_toNat (by omega)]; omega
theorem dec_ne (u : Nat) : Lib.decDigits u ≠ [] := fun e => by
 have := Lib.decDigits_length u
 have := Lib.nDigits_pos u
 rw [e] at *
 simp at *; omega
theorem dec_head (u : Nat) (h0 : 1 ≤ u) : ∃ c r, Lib.decDigits u = c :: r ∧ c.toNat ≠ 48 := by
 induction u using Nat.strongRecOn with
 | _ u ih =>
  by_cases h : u < 10
  · exact ⟨_, [], Lib.decDigits_one h, by rw [dig_toNat h]; omega⟩
  ·
   obtain ⟨c, r, e, hc⟩ := ih (u / 10) (by omega) (by omega)
   exact ⟨c, r ++ _, by rw [decDigits_big h, e]; rfl, hc⟩
theorem decV_snoc (l : List UInt8) (c : UInt8) : decV (l ++ [c]) = 10 * decV l + (c.toNat - 48) := by unfold decV; rw [List.foldl_append]; rfl
theorem dec_decV_rev (c : UInt8) (hc : c.toNat ≠ 48) : ∀ q : List UInt8, (∀ x ∈ c :: q.reverse, isDig x) → Lib.decDigits (decV (c :: q.reverse)) = c :: q.reverse ∧ 1 ≤ decV (c :: q.reverse)
 | [], hd => by
  have := hd c (by simp)
  unfold isDig at this
  show Lib.decDigits (10 * 0 + (c.toNat - 48)) = [c] ∧ 1 ≤ 10 * 0 + (c.toNat - 48)
  rw [Lib.decDigits_one (by omega)]
  refine ⟨?_, by omega⟩
  rw [show 48 + (10 * 0 + (c.toNat - 48)) = c.toNat by omega]; simp
 | d :: q, hd => by
  obtain ⟨h1, h2⟩ := dec_decV_rev c hc q (fun x hx => hd x (by simp at hx ⊢; rcases hx with h | h <;> simp [h]))
  have hdd := hd d (by simp)
  unfold isDig at hdd
  rw [List.reverse_cons, ← List.cons_append, decV_snoc]
  refine ⟨?_, by omega⟩
  rw [decDigits_big (by omega), show (10 * decV (c :: q.reverse) + (d.toNat - 48)) / 10 = decV (c :: q.reverse) by omega, h1]
  rw [show 48 + (10 * decV (c :: q.reverse) + (d.toNat - 48)) % 10 = d.toNat by omega]; simp
theorem dec_decV (c : UInt8) (r : List UInt8) (hd : ∀ x ∈ c :: r, isDig x) (hc : c.toNat ≠ 48) : Lib.decDigits (decV (c :: r)) = c :: r ∧ 1 ≤ decV (c :: r) := by
 have := dec_decV_rev c hc r.reverse
 rw [List.reverse_reverse] at this
 exact this hd
end Go.Proofs.YtodbgjnccngljaaGreatDoor
