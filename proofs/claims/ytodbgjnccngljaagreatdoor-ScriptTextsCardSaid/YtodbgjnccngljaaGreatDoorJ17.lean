/- Plain law: acts, their lines, and what is read of a line. Plain law: what is read of a line is the act with that line. -/
import Derived.Test.YtodbgjnccngljaaGreatDoorJ16
namespace Go.Proofs.YtodbgjnccngljaaGreatDoor
open Go
structure ActL where
 k : Int
 at_ : Int
 id : Int
 n : Int
 s : List UInt8
 a : Nat
 b : Nat
 on : Bool
 v6 : Bool
 hi : Nat
 lo : Nat
 pk : Int
 ps : Int
def zeroL (k : Int) : ActL := ⟨k, 0, 0, 0, [], 0, 0, false, false, 0, 0, 0, 0⟩
def numOk (n : Int) : Bool := decide (-4611686018427387904 ≤ n) && decide (n ≤ 4611686018427387904)
theorem numOk_iff {n : Int} : numOk n = true ↔ -4611686018427387904 ≤ n ∧ n ≤ 4611686018427387904 := by unfold numOk; simp
def textL (s : List UInt8) : List UInt8 := if s = [] then [45] else hexL s
def onL (b : Bool) : List UInt8 := if b then [111, 110] else [111, 102, 102]
def wordsL : List (List UInt8) := [[112, 97, 99, 107, 101, 116], [115, 101, 110, 100], [97, 100, 100], [114, 101, 109, 111, 118, 101], [100, 114, 97, 105, 110], [119, 101, 105, 103, 104, 116], [112, 114, 111, 98, 101], [112, 111, 108, 105, 99, 121], [109, 111, 100, 101], [102, 97, 108, 108], [114, 105, 115, 101], [116, 105, 99, 107]]
def bareL (x : ActL) : ActL :=
 if x.k = 0 then ⟨x.k, 0, x.id, x.n, [], 0, 0, x.on, x.v6, x.hi, x.lo, x.pk, x.ps⟩
 else if x.k = 1 then ⟨x.k, x.at_, 0, x.n, [], x.a, x.b, x.on, x.v6, x.hi, x.lo, x.pk, x.ps⟩
 else if x.k = 2 then ⟨x.k, x.at_, x.id, 0, x.s, x.a, x.b, x.on, false, 0, 0, x.pk, x.ps⟩
 else if x.k = 3 then ⟨x.k, x.at_, 0, x.n, x.s, x.a, x.b, x.on, x.v6, x.hi, x.lo, x.pk, x.ps⟩
 else if x.k = 4 then ⟨x.k, x.at_, 0, x.n, x.s, x.a, x.b, false, x.v6, x.hi, x.lo, x.pk, x.ps⟩
 else if x.k = 6 then ⟨x.k, x.at_, 0, x.n, x.s, x.a, x.b, false, x.v6, x.hi, x.lo, x.pk, x.ps⟩
 else if x.k = 5 then ⟨x.k, x.at_, 0, 0, x.s, x.a, x.b, x.on, x.v6, x.hi, x.lo, x.pk, x.ps⟩
 else if x.k = 7 then ⟨x.k, x.at_, x.id, x.n, x.s, x.a, x.b, x.on, x.v6, x.hi, x.lo, 0, 0⟩
 else if x.k = 8 then ⟨x.k, x.at_, x.id, x.n, x.s, x.a, x.b, false, x.v6, x.hi, x.lo, x.pk, x.ps⟩
 else if x.k = 9 then ⟨x.k, 0, x.id, x.n, x.s, x.a, x.b, x.on, x.v6, x.hi, x.lo, x.pk, x.ps⟩
 else if x.k = 10 then ⟨x.k, 0, x.id, x.n, x.s, x.a, x.b, x.on, x.v6, x.hi, x.lo, x.pk, x.ps⟩
 else if x.k = 11 then ⟨x.k, x.at_, x.id, 0, x.s, x.a, x.b, x.on, x.v6, x.hi, x.lo, x.pk, x.ps⟩
 else x
def eqL (x y : ActL) : Bool := x.k == y.k && (x.at_ == y.at_ && (x.id == y.id && (x.n == y.n && (x.s == y.s && (x.a == y.a && (x.b == y.b && (x.on == y.on && (adrB x.v6 x.hi x.lo y.v6 y.hi y.lo && (x.pk == y.pk && x.ps == y.ps)))))))))
theorem eqL_iff {x y : ActL} : eqL x y = true ↔ x = y := by
 obtain ⟨k, a0, id, n, s, a, b, o, v6, hi, lo, pk, ps⟩ := x
 obtain ⟨k', a0', id', n', s', a', b', o', v6', hi', lo', pk', ps'⟩ := y
 unfold eqL adrB
 simp [and_assoc]
def rightL (x : ActL) : Bool := decide (0 ≤ x.k) && (decide (x.k ≤ 11) && (numOk x.at_ && (numOk x.id && (numOk x.n && (numOk x.pk && (numOk x.ps && (eqL (bareL x) (zeroL x.k) && (decide (x.k ≠ 2) || adrOk x.v6 x.hi x.lo))))))))
def inL (x : ActL) : Prop := x.a < 18446744073709551616 ∧ x.b < 18446744073709551616 ∧ x.hi < 18446744073709551616 ∧ x.lo < 18446744073709551616
def saidL (x : ActL) : List (List UInt8) :=
 if x.k = 0 then [Lib.itoa x.at_, Lib.decDigits x.a, Lib.decDigits x.b, textL x.s]
 else if x.k = 1 then [Lib.itoa x.id, textL x.s]
 else if x.k = 2 then [Lib.itoa x.n, adrTxt x.v6 x.hi x.lo]
 else if x.k = 3 then [Lib.itoa x.id]
 else if x.k = 4 then [Lib.itoa x.id, onL x.on]
 else if x.k = 6 then [Lib.itoa x.id, onL x.on]
 else if x.k = 5 then [Lib.itoa x.id, Lib.itoa x.n]
 else if x.k = 7 then [Lib.itoa x.pk, Lib.itoa x.ps]
 else if x.k = 8 then [onL x.on]
 else if x.k = 11 then [Lib.itoa x.n]
 else [Lib.itoa x.at_]
def lineL (x : ActL) : List UInt8 := Lib.join (wordsL.getD x.k.toNat [] :: saidL x) [32]
def digF : List UInt8 → Nat → Nat → Option Nat
 | [], _, n => some n
 | d :: r, m, n => if 48 ≤ d.toNat ∧ d.toNat ≤ 57 ∧ n ≤ m / 10 ∧ 10 * n ≤ m - (d.toNat - 48) ∧ d.toNat - 48 ≤ m then digF r m (10 * n + (d.toNat - 48)) else none
def decS (n : Nat) (c : UInt8) : Nat := 10 * n + (c.toNat - 48)
theorem decS_ge (r : List UInt8) : ∀ n, n ≤ r.foldl decS n := by
 induction r with
 | nil => intro n; exact Nat.le_refl _
 | cons c r ih => intro n; exact Nat.le_trans (by unfold decS; omega) (ih _)
theorem digF_iff (m x : Nat) : ∀ (w : List UInt8) (n : Nat), n ≤ m → (digF w m n = some x ↔ (∀ d ∈ w, isDig d) ∧ w.foldl decS n = x ∧ x ≤ m)
 | [], n, h => by
  unfold digF
  simp
  intro e; omega
 | d :: r, n, h => by
  unfold digF
  by_cases hc : 48 ≤ d.toNat ∧ d.toNat ≤ 57 ∧ n ≤ m / 10 ∧ 10 * n ≤ m - (d.toNat - 48) ∧ d.toNat - 48 ≤ m
  ·
   rw [if_pos hc, digF_iff m x r _ (by omega)]
   have hd : isDig d := ⟨hc.1, hc.2.1⟩
   constructor
   ·
    rintro ⟨h1, h2, h3⟩
    exact ⟨fun y hy => by rcases List.mem_cons.1 hy with rfl | hy; exact hd; exact h1 y hy, h2, h3⟩
   ·
    rintro ⟨h1, h2, h3⟩
    exact ⟨fun y hy => h1 y (List.mem_cons_of_mem _ hy), h2, h3⟩
  ·
   rw [if_neg hc]
   constructor
   · intro e; cases e
   ·
    rintro ⟨h1, h2, h3⟩
    exfalso
    apply hc
    have hd := h1 d (List.mem_cons_self ..)
    obtain ⟨d1, d2⟩ := hd
    have hg := decS_ge r (decS n d)
    have h2' : r.foldl decS (decS n d) = x := h2
    rw [h2'] at hg
    unfold decS at hg
    refine ⟨d1, d2, ?_, ?_, ?_⟩ <;> omega
def digP (w : List UInt8) (m : Nat) : Option Nat := match w with
 | [] => none
 | c :: r => if c.toNat = 48 ∧ r ≠ [] then none else digF (c :: r) m 0
theorem decV_decS (w : List UInt8) : w.foldl decS 0 = decV w := rfl
theorem digP_iff (w : List UInt8) (m x : Nat) : digP w m = some x ↔ x ≤ m ∧ w = Lib.decDigits x := by
 cases w with
 | nil =>
  unfold digP
  constructor
  · intro e; cases e
  · rintro ⟨-, e⟩; exact absurd e.symm (dec_ne x)
 | cons c r =>
  unfold digP
  show (if c.toNat = 48 ∧ r ≠ [] then none else digF (c :: r) m 0) = some x ↔ _
  by_cases hc : c.toNat = 48 ∧ r ≠ []
  ·
   rw [if_pos hc]
   constructor
   · intro e; cases e
   ·
    rintro ⟨-, e⟩
    exfalso
    rcases Nat.eq_zero_or_pos x with h0 | h0
    ·
     subst h0
     rw [Lib.decDigits_one (by decide)] at e
     simp at e
     exact hc.2 e.2
    ·
     obtain ⟨c', r', e', hc'⟩ := dec_head x h0
     rw [e'] at e
     cases e
     exact hc' hc.1
  ·
   rw [if_neg hc, digF_iff m x _ 0 (Nat.zero_le _), decV_decS]
   constructor
   ·
    rintro ⟨h1, h2, h3⟩
    refine ⟨h3, ?_⟩
    by_cases h48 : c.toNat = 48
    ·
     have hr : r = [] := Classical.byContradiction fun h => hc ⟨h48, h⟩
     subst hr
     have hc' : c = 48 := UInt8.toNat_inj.1 h48
     subst hc'
     have : x = 0 := by rw [← h2]; rfl
     subst this
     rw [Lib.decDigits_one (by decide)]
     rfl
    ·
     have := (dec_decV c r h1 h48).1
     rw [h2] at this
     exact this.symm
   ·
    rintro ⟨h1, h2⟩
    exact ⟨fun d hd => dec_isDig x d (h2 ▸ hd), by rw [h2]; exact decV_dec x, h1⟩
def numP (w : List UInt8) : Option Int := match w with
 | [] => none
 | c :: r => if c = 45 then (match digP r 4611686018427387904 with
   | some n => if 0 < n then some (-(n : Int)) else none
   | none => none) else (digP (c :: r) 4611686018427387904).map fun (m : Nat) => (m : Int)
theorem itoa_nat (n : Nat) : Lib.itoa (n : Int) = Lib.decDigits n := by
 unfold Lib.itoa
 rw [if_neg (by omega)]; rfl
theorem itoa_neg {n : Nat} (h : 0 < n) : Lib.itoa (-(n : Int)) = 45 :: Lib.decDigits n := by
 unfold Lib.itoa
 rw [if_pos (by omega)]
 congr 2
 omega
theorem numP_iff (w : List UInt8) (n : Int) : numP w = some n ↔ numOk n = true ∧ w = Lib.itoa n := by
 rw [numOk_iff]
 cases w with
 | nil =>
  constructor
  · intro e; cases e
  ·
   rintro ⟨-, e⟩
   unfold Lib.itoa at e
   split at e
   · cases e
   · exact absurd e.symm (dec_ne _)
 | cons c r =>
  unfold numP
  show (if c = 45 then _ else _) = some n ↔ _
  by_cases hc : c = 45
  ·
   subst hc
   rw [if_pos rfl]
   cases hp : digP r 4611686018427387904 with
   | none =>
    constructor
    · intro e; cases e
    ·
     rintro ⟨⟨h1, h2⟩, e⟩
     exfalso
     unfold Lib.itoa at e
     split at e
     ·
      cases e
      have := (digP_iff (Lib.decDigits n.natAbs) 4611686018427387904 n.natAbs).2 ⟨by omega, rfl⟩
      rw [this] at hp; cases hp
     ·
      have := dec_isDig n.toNat 45 (by rw [← e]; exact List.mem_cons_self ..)
      exact absurd this.1 (by decide)
   | some k =>
    obtain ⟨k1, k2⟩ := (digP_iff _ _ _).1 hp
    show (if 0 < k then some (-(k : Int)) else none) = some n ↔ _
    by_cases hk : 0 < k
    ·
     rw [if_pos hk]
     constructor
     ·
      intro e
      cases e
      exact ⟨by omega, by rw [itoa_neg hk, k2]⟩
     ·
      rintro ⟨⟨h1, h2⟩, e⟩
      unfold Lib.itoa at e
      split at e
      ·
       have e2 : r = Lib.decDigits n.natAbs := by simpa using e
       have : n.natAbs = k := by
        have := congrArg decV (e2.symm.trans k2)
        rwa [decV_dec, decV_dec] at this
       congr 1; omega
      ·
       have := dec_isDig n.toNat 45 (by rw [← e]; exact List.mem_cons_self ..)
       exact absurd this.1 (by decide)
    ·
     rw [if_neg hk]
     constructor
     · intro e; cases e
     ·
      rintro ⟨⟨h1, h2⟩, e⟩
      exfalso
      unfold Lib.itoa at e
      split at e
      ·
       have e2 : r = Lib.decDigits n.natAbs := by simpa using e
       have : n.natAbs = k := by
        have := congrArg decV (e2.symm.trans k2)
        rwa [decV_dec, decV_dec] at this
       omega
      ·
       have := dec_isDig n.toNat 45 (by rw [← e]; exact List.mem_cons_self ..)
       exact absurd this.1 (by decide)
  ·
   rw [if_neg hc]
   constructor
   ·
    intro e
    obtain ⟨k, hk, rfl⟩ := Option.map_eq_some_iff.1 e
    obtain ⟨k1, k2⟩ := (digP_iff _ _ _).1 hk
    exact ⟨by omega, by rw [itoa_nat, k2]⟩
   ·
    rintro ⟨⟨h1, h2⟩, e⟩
    have hn : 0 ≤ n := by
     rcases Int.lt_or_le n 0 with h | h
     ·
      exfalso
      unfold Lib.itoa at e
      rw [if_pos h] at e
      cases e
      exact hc rfl
     · exact h
    obtain ⟨k, rfl⟩ := Int.eq_ofNat_of_zero_le hn
    rw [itoa_nat] at e
    rw [(digP_iff _ _ _).2 ⟨by omega, e⟩]
    rfl
def bytesP (w : List UInt8) : Option (List UInt8) := if w = [45] then some [] else match unhexL w with
 | some s => if s = [] then none else some s
 | none => none
theorem bytesP_iff (w s : List UInt8) : bytesP w = some s ↔ w = textL s := by
 unfold bytesP textL
 by_cases hw : w = [45]
 ·
  rw [if_pos hw]
  constructor
  · intro e; cases e; rw [if_pos rfl]; exact hw
  ·
   intro e
   by_cases hs : s = []
   · rw [hs]
   ·
    rw [if_neg hs, hw] at e
    have := congrArg List.length e
    rw [hexL_len] at this
    simp at this
    omega
 ·
  rw [if_neg hw]
  cases hu : unhexL w with
  | none =>
   constructor
   · intro e; cases e
   ·
    intro e
    by_cases hs : s = []
    · rw [if_pos hs] at e; exact absurd e hw
    ·
     rw [if_neg hs] at e
     rw [e, unhex_hex] at hu
     cases hu
  | some x =>
   have hx := hex_unhex w x hu
   show (if x = [] then none else some x) = some s ↔ _
   by_cases hx0 : x = []
   ·
    rw [if_pos hx0]
    constructor
    · intro e; cases e
    ·
     intro e
     exfalso
     subst hx0
     by_cases hs : s = []
     · rw [if_pos hs] at e; exact hw e
     ·
      rw [if_neg hs, ← hx] at e
      have := congrArg List.length e
      rw [hexL_len, hexL_len] at this
      cases s
      · exact hs rfl
      · simp at this
   ·
    rw [if_neg hx0]
    constructor
    · intro e; cases e; rw [if_neg hx0]; exact hx.symm
    ·
     intro e
     by_cases hs : s = []
     · rw [if_pos hs] at e; exact absurd e hw
     ·
      rw [if_neg hs, ← hx] at e
      have := congrArg unhexL e
      rw [unhex_hex, unhex_hex] at this
      exact this
def onP (w : List UInt8) : Option Bool := if w = [111, 110] then some true else if w = [111, 102, 102] then some false else none
theorem onP_iff (w : List UInt8) (b : Bool) : onP w = some b ↔ w = onL b := by
 unfold onP onL
 by_cases h1 : w = [111, 110]
 · rw [if_pos h1]; cases b <;> simp [h1]
 ·
  rw [if_neg h1]
  by_cases h2 : w = [111, 102, 102]
  · rw [if_pos h2]; cases b <;> simp [h2]
  · rw [if_neg h2]; cases b <;> simp [h1, h2]
def kindP (w : List UInt8) : Option Nat := wordsL.findIdx? (· == w)
theorem kindP_fin : ∀ k : Fin 12, kindP (wordsL.getD k.val []) = some k.val := by decide +kernel
theorem kindP_iff (w : List UInt8) (k : Nat) : kindP w = some k ↔ k < 12 ∧ w = wordsL.getD k [] := by
 constructor
 ·
  intro h
  unfold kindP at h
  obtain ⟨hk, hw, -⟩ := List.findIdx?_eq_some_iff_getElem.1 h
  refine ⟨hk, ?_⟩
  have := eq_of_beq hw
  rw [List.getD_eq_getElem?_getD, List.getElem?_eq_getElem hk]
  exact this.symm
 ·
  rintro ⟨hk, rfl⟩
  exact kindP_fin ⟨k, hk⟩
def argsP (k : Nat) (r : List (List UInt8)) : Option ActL :=
 if k = 0 then (match r with
  | [p, q, t, u] => (numP p).bind fun x => (digP q 18446744073709551615).bind fun y => (digP t 18446744073709551615).bind fun z => (bytesP u).map fun s => ⟨0, x, 0, 0, s, y, z, false, false, 0, 0, 0, 0⟩
  | _ => none)
 else if k = 1 then (match r with
  | [p, u] => (numP p).bind fun x => (bytesP u).map fun s => ⟨1, 0, x, 0, s, 0, 0, false, false, 0, 0, 0, 0⟩
  | _ => none)
 else if k = 2 then (match r with
  | [p, u] => (numP p).bind fun x => (readA u).map fun a => ⟨2, 0, 0, x, [], 0, 0, false, a.1, a.2.1, a.2.2, 0, 0⟩
  | _ => none)
 else if k = 3 then (match r with
  | [p] => (numP p).map fun x => ⟨3, 0, x, 0, [], 0, 0, false, false, 0, 0, 0, 0⟩
  | _ => none)
 else if k = 4 then (match r with
  | [p, u] => (numP p).bind fun x => (onP u).map fun b => ⟨4, 0, x, 0, [], 0, 0, b, false, 0, 0, 0, 0⟩
  | _ => none)
 else if k = 5 then (match r with
  | [p, u] => (numP p).bind fun x => (numP u).map fun y => ⟨5, 0, x, y, [], 0, 0, false, false, 0, 0, 0, 0⟩
  | _ => none)
 else if k = 6 then (match r with
  | [p, u] => (numP p).bind fun x => (onP u).map fun b => ⟨6, 0, x, 0, [], 0, 0, b, false, 0, 0, 0, 0⟩
  | _ => none)
 else if k = 7 then (match r with
  | [p, u] => (numP p).bind fun x => (numP u).map fun y => ⟨7, 0, 0, 0, [], 0, 0, false, false, 0, 0, x, y⟩
  | _ => none)
 else if k = 8 then (match r with
  | [u] => (onP u).map fun b => ⟨8, 0, 0, 0, [], 0, 0, b, false, 0, 0, 0, 0⟩
  | _ => none)
 else if k = 9 then (match r with
  | [p] => (numP p).map fun x => ⟨9, x, 0, 0, [], 0, 0, false, false, 0, 0, 0, 0⟩
  | _ => none)
 else if k = 10 then (match r with
  | [p] => (numP p).map fun x => ⟨10, x, 0, 0, [], 0, 0, false, false, 0, 0, 0, 0⟩
  | _ => none)
 else (match r with
  | [p] => (numP p).map fun x => ⟨11, 0, 0, x, [], 0, 0, false, false, 0, 0, 0, 0⟩
  | _ => none)
def actP (ws : List (List UInt8)) : Option ActL := match ws with
 | [] => none
 | w :: r => (kindP w).bind fun k => argsP k r
def parseP (l : List UInt8) : Option ActL := actP (parts 32 l)
theorem numOk_zero : numOk 0 = true := by decide
theorem itoa_sp (n : Int) : (32 : UInt8) ∉ Lib.itoa n := by
 unfold Lib.itoa
 intro h
 split at h
 ·
  rcases List.mem_cons.1 h with h | h
  · cases h
  · exact absurd (dec_isDig _ _ h).1 (by decide)
 · exact absurd (dec_isDig _ _ h).1 (by decide)
theorem dec_sp (n : Nat) : (32 : UInt8) ∉ Lib.decDigits n := fun h => absurd (dec_isDig _ _ h).1 (by decide)
theorem text_sp (s : List UInt8) : (32 : UInt8) ∉ textL s := by
 unfold textL
 intro h
 split at h
 · simp at h
 · rcases hexL_isHex s _ h with h | h <;> exact absurd h.1 (by decide)
theorem on_sp (b : Bool) : (32 : UInt8) ∉ onL b := by cases b <;> decide
theorem adrTxt_sp (v : Bool) (hi lo : Nat) : (32 : UInt8) ∉ adrTxt v hi lo := by
 unfold adrTxt
 generalize adrPut v hi lo = b
 show (32 : UInt8) ∉ (if b.length = 4 then txt4 b else if b.length = 16 then txt6 b else [])
 intro h
 split at h
 ·
  unfold txt4 at h
  rcases mem_join _ _ _ h with h | ⟨x, hx, h⟩
  · cases h
  ·
   obtain ⟨c, -, rfl⟩ := List.mem_map.1 hx
   exact absurd (dec3_isDig c _ h).1 (by decide)
 ·
  split at h
  ·
   unfold txt6 at h
   rcases mem_join _ _ _ h with h | ⟨x, hx, h⟩
   · cases h
   ·
    obtain ⟨c, -, rfl⟩ := List.mem_map.1 hx
    rcases hexL_isHex c _ h with h | h <;> exact absurd h.1 (by decide)
  · cases h
theorem word_sp_fin : ∀ k : Fin 12, (32 : UInt8) ∉ wordsL.getD k.val [] := by decide +kernel
theorem said_sp (x : ActL) : ∀ w ∈ saidL x, (32 : UInt8) ∉ w := by
 intro w hw
 unfold saidL at hw
 repeat' split at hw
 all_goals
  simp only [List.mem_cons, List.not_mem_nil, or_false] at hw
  first
  | (rcases hw with rfl | rfl | rfl | rfl <;> first | exact itoa_sp _ | exact dec_sp _ | exact text_sp _)
  | (rcases hw with rfl | rfl <;> first | exact itoa_sp _ | exact text_sp _ | exact on_sp _ | exact adrTxt_sp _ _ _)
  | (subst hw; first | exact itoa_sp _ | exact on_sp _)
theorem parts_line (x : ActL) (h0 : 0 ≤ x.k) (h11 : x.k ≤ 11) : parts 32 (lineL x) = wordsL.getD x.k.toNat [] :: saidL x := by
 unfold lineL
 exact parts_join 32 _ (by simp) (fun w hw => by
  rcases List.mem_cons.1 hw with rfl | hw
  · exact word_sp_fin ⟨x.k.toNat, by omega⟩
  · exact said_sp x w hw)
theorem line_of {l w : List UInt8} {r : List (List UInt8)} {x : ActL} (hp : parts 32 l = w :: r) (hw : w = wordsL.getD x.k.toNat []) (hr : r = saidL x) : lineL x = l := by
 unfold lineL
 rw [← hw, ← hr, ← hp]
 exact join_parts 32 l
theorem lt64 : (0 : Nat) < 18446744073709551616 := by decide
theorem right_mk {x : ActL} (k : Int) (hk : x.k = k) (h0 : 0 ≤ k) (h1 : k ≤ 11) (ha : numOk x.at_ = true) (hb : numOk x.id = true) (hc : numOk x.n = true) (hd : numOk x.pk = true) (he : numOk x.ps = true) (hz : bareL x = zeroL x.k) (h2 : k ≠ 2 ∨ adrOk x.v6 x.hi x.lo = true) : rightL x = true := by
 subst hk
 unfold rightL
 rw [decide_eq_true h0, decide_eq_true h1, ha, hb, hc, hd, he, eqL_iff.2 hz]
 rcases h2 with h2 | h2
 · rw [decide_eq_true h2]; rfl
 · rw [h2]; simp
theorem args_fwd0 (r : List (List UInt8)) (x : ActL) (h : argsP 0 r = some x) : x.k = 0 ∧ r = saidL x ∧ rightL x = true ∧ inL x := by
 rcases r with _ | ⟨p0, _ | ⟨p1, _ | ⟨p2, _ | ⟨p3, _ | ⟨z, r⟩⟩⟩⟩⟩ <;> try cases h
 obtain ⟨y0, a0, h⟩ := Option.bind_eq_some_iff.1 (show (numP p0).bind _ = some x from h)
 obtain ⟨y1, a1, h⟩ := Option.bind_eq_some_iff.1 h
 obtain ⟨y2, a2, h⟩ := Option.bind_eq_some_iff.1 h
 obtain ⟨y3, a3, rfl⟩ := Option.map_eq_some_iff.1 h
 obtain ⟨b0, c0⟩ := (numP_iff _ _).1 a0
 obtain ⟨b1, c1⟩ := (digP_iff _ _ _).1 a1
 obtain ⟨b2, c2⟩ := (digP_iff _ _ _).1 a2
 have c3 := (bytesP_iff _ _).1 a3
 exact ⟨rfl, by rw [c0, c1, c2, c3]; rfl, right_mk 0 rfl (by decide) (by decide) b0 numOk_zero numOk_zero numOk_zero numOk_zero rfl (Or.inl (by decide)), Nat.lt_succ_of_le b1, Nat.lt_succ_of_le b2, lt64, lt64⟩
theorem args_fwd1 (r : List (List UInt8)) (x : ActL) (h : argsP 1 r = some x) : x.k = 1 ∧ r = saidL x ∧ rightL x = true ∧ inL x := by
 rcases r with _ | ⟨p0, _ | ⟨p1, _ | ⟨z, r⟩⟩⟩ <;> try cases h
 obtain ⟨y0, a0, h⟩ := Option.bind_eq_some_iff.1 (show (numP p0).bind _ = some x from h)
 obtain ⟨y1, a1, rfl⟩ := Option.map_eq_some_iff.1 h
 obtain ⟨b0, c0⟩ := (numP_iff _ _).1 a0
 have c1 := (bytesP_iff _ _).1 a1
 exact ⟨rfl, by rw [c0, c1]; rfl, right_mk 1 rfl (by decide) (by decide) numOk_zero b0 numOk_zero numOk_zero numOk_zero rfl (Or.inl (by decide)), lt64, lt64, lt64, lt64⟩
theorem args_fwd2 (r : List (List UInt8)) (x : ActL) (h : argsP 2 r = some x) : x.k = 2 ∧ r = saidL x ∧ rightL x = true ∧ inL x := by
 rcases r with _ | ⟨p0, _ | ⟨p1, _ | ⟨z, r⟩⟩⟩ <;> try cases h
 obtain ⟨y0, a0, h⟩ := Option.bind_eq_some_iff.1 (show (numP p0).bind _ = some x from h)
 obtain ⟨⟨v6, hi, lo⟩, a1, rfl⟩ := Option.map_eq_some_iff.1 h
 obtain ⟨b0, c0⟩ := (numP_iff _ _).1 a0
 obtain ⟨⟨b1, d1, d2⟩, c1⟩ := txt_readA a1
 exact ⟨rfl, by rw [c0, ← c1]; rfl, right_mk 2 rfl (by decide) (by decide) numOk_zero numOk_zero b0 numOk_zero numOk_zero rfl (Or.inr b1), lt64, lt64, d1, d2⟩
theorem args_fwd3 (r : List (List UInt8)) (x : ActL) (h : argsP 3 r = some x) : x.k = 3 ∧ r = saidL x ∧ rightL x = true ∧ inL x := by
 rcases r with _ | ⟨p0, _ | ⟨z, r⟩⟩ <;> try cases h
 obtain ⟨y0, a0, rfl⟩ := Option.map_eq_some_iff.1 (show (numP p0).map _ = some x from h)
 obtain ⟨b0, c0⟩ := (numP_iff _ _).1 a0
 exact ⟨rfl, by rw [c0]; rfl, right_mk 3 rfl (by decide) (by decide) numOk_zero b0 numOk_zero numOk_zero numOk_zero rfl (Or.inl (by decide)), lt64, lt64, lt64, lt64⟩
theorem args_fwd4 (r : List (List UInt8)) (x : ActL) (h : argsP 4 r = some x) : x.k = 4 ∧ r = saidL x ∧ rightL x = true ∧ inL x := by
 rcases r with _ | ⟨p0, _ | ⟨p1, _ | ⟨z, r⟩⟩⟩ <;> try cases h
 obtain ⟨y0, a0, h⟩ := Option.bind_eq_some_iff.1 (show (numP p0).bind _ = some x from h)
 obtain ⟨y1, a1, rfl⟩ := Option.map_eq_some_iff.1 h
 obtain ⟨b0, c0⟩ := (numP_iff _ _).1 a0
 have c1 := (onP_iff _ _).1 a1
 exact ⟨rfl, by rw [c0, c1]; rfl, right_mk 4 rfl (by decide) (by decide) numOk_zero b0 numOk_zero numOk_zero numOk_zero rfl (Or.inl (by decide)), lt64, lt64, lt64, lt64⟩
theorem args_fwd5 (r : List (List UInt8)) (x : ActL) (h : argsP 5 r = some x) : x.k = 5 ∧ r = saidL x ∧ rightL x = true ∧ inL x := by
 rcases r with _ | ⟨p0, _ | ⟨p1, _ | ⟨z, r⟩⟩⟩ <;> try cases h
 obtain ⟨y0, a0, h⟩ := Option.bind_eq_some_iff.1 (show (numP p0).bind _ = some x from h)
 obtain ⟨y1, a1, rfl⟩ := Option.map_eq_some_iff.1 h
 obtain ⟨b0, c0⟩ := (numP_iff _ _).1 a0
 obtain ⟨b1, c1⟩ := (numP_iff _ _).1 a1
 exact ⟨rfl, by rw [c0, c1]; rfl, right_mk 5 rfl (by decide) (by decide) numOk_zero b0 b1 numOk_zero numOk_zero rfl (Or.inl (by decide)), lt64, lt64, lt64, lt64⟩
theorem args_fwd6 (r : List (List UInt8)) (x : ActL) (h : argsP 6 r = some x) : x.k = 6 ∧ r = saidL x ∧ rightL x = true ∧ inL x := by
 rcases r with _ | ⟨p0, _ | ⟨p1, _ | ⟨z, r⟩⟩⟩ <;> try cases h
 obtain ⟨y0, a0, h⟩ := Option.bind_eq_some_iff.1 (show (numP p0).bind _ = some x from h)
 obtain ⟨y1, a1, rfl⟩ := Option.map_eq_some_iff.1 h
 obtain ⟨b0, c0⟩ := (numP_iff _ _).1 a0
 have c1 := (onP_iff _ _).1 a1
 exact ⟨rfl, by rw [c0, c1]; rfl, right_mk 6 rfl (by decide) (by decide) numOk_zero b0 numOk_zero numOk_zero numOk_zero rfl (Or.inl (by decide)), lt64, lt64, lt64, lt64⟩
theorem args_fwd7 (r : List (List UInt8)) (x : ActL) (h : argsP 7 r = some x) : x.k = 7 ∧ r = saidL x ∧ rightL x = true ∧ inL x := by
 rcases r with _ | ⟨p0, _ | ⟨p1, _ | ⟨z, r⟩⟩⟩ <;> try cases h
 obtain ⟨y0, a0, h⟩ := Option.bind_eq_some_iff.1 (show (numP p0).bind _ = some x from h)
 obtain ⟨y1, a1, rfl⟩ := Option.map_eq_some_iff.1 h
 obtain ⟨b0, c0⟩ := (numP_iff _ _).1 a0
 obtain ⟨b1, c1⟩ := (numP_iff _ _).1 a1
 exact ⟨rfl, by rw [c0, c1]; rfl, right_mk 7 rfl (by decide) (by decide) numOk_zero numOk_zero numOk_zero b0 b1 rfl (Or.inl (by decide)), lt64, lt64, lt64, lt64⟩
theorem args_fwd8 (r : List (List UInt8)) (x : ActL) (h : argsP 8 r = some x) : x.k = 8 ∧ r = saidL x ∧ rightL x = true ∧ inL x := by
 rcases r with _ | ⟨p0, _ | ⟨z, r⟩⟩ <;> try cases h
 obtain ⟨y0, a0, rfl⟩ := Option.map_eq_some_iff.1 (show (onP p0).map _ = some x from h)
 have c0 := (onP_iff _ _).1 a0
 exact ⟨rfl, by rw [c0]; rfl, right_mk 8 rfl (by decide) (by decide) numOk_zero numOk_zero numOk_zero numOk_zero numOk_zero rfl (Or.inl (by decide)), lt64, lt64, lt64, lt64⟩
theorem args_fwd9 (r : List (List UInt8)) (x : ActL) (h : argsP 9 r = some x) : x.k = 9 ∧ r = saidL x ∧ rightL x = true ∧ inL x := by
 rcases r with _ | ⟨p0, _ | ⟨z, r⟩⟩ <;> try cases h
 obtain ⟨y0, a0, rfl⟩ := Option.map_eq_some_iff.1 (show (numP p0).map _ = some x from h)
 obtain ⟨b0, c0⟩ := (numP_iff _ _).1 a0
 exact ⟨rfl, by rw [c0]; rfl, right_mk 9 rfl (by decide) (by decide) b0 numOk_zero numOk_zero numOk_zero numOk_zero rfl (Or.inl (by decide)), lt64, lt64, lt64, lt64⟩
theorem args_fwd10 (r : List (List UInt8)) (x : ActL) (h : argsP 10 r = some x) : x.k = 10 ∧ r = saidL x ∧ rightL x = true ∧ inL x := by
 rcases r with _ | ⟨p0, _ | ⟨z, r⟩⟩ <;> try cases h
 obtain ⟨y0, a0, rfl⟩ := Option.map_eq_some_iff.1 (show (numP p0).map _ = some x from h)
 obtain ⟨b0, c0⟩ := (numP_iff _ _).1 a0
 exact ⟨rfl, by rw [c0]; rfl, right_mk 10 rfl (by decide) (by decide) b0 numOk_zero numOk_zero numOk_zero numOk_zero rfl (Or.inl (by decide)), lt64, lt64, lt64, lt64⟩
theorem args_fwd11 (r : List (List UInt8)) (x : ActL) (h : argsP 11 r = some x) : x.k = 11 ∧ r = saidL x ∧ rightL x = true ∧ inL x := by
 rcases r with _ | ⟨p0, _ | ⟨z, r⟩⟩ <;> try cases h
 obtain ⟨y0, a0, rfl⟩ := Option.map_eq_some_iff.1 (show (numP p0).map _ = some x from h)
 obtain ⟨b0, c0⟩ := (numP_iff _ _).1 a0
 exact ⟨rfl, by rw [c0]; rfl, right_mk 11 rfl (by decide) (by decide) numOk_zero numOk_zero b0 numOk_zero numOk_zero rfl (Or.inl (by decide)), lt64, lt64, lt64, lt64⟩
theorem args_fwd (k : Nat) (hk : k < 12) (r : List (List UInt8)) (x : ActL) (h : argsP k r = some x) : x.k = (k : Int) ∧ r = saidL x ∧ rightL x = true ∧ inL x := by
 obtain rfl | rfl | rfl | rfl | rfl | rfl | rfl | rfl | rfl | rfl | rfl | rfl : k = 0 ∨ k = 1 ∨ k = 2 ∨ k = 3 ∨ k = 4 ∨ k = 5 ∨ k = 6 ∨ k = 7 ∨ k = 8 ∨ k = 9 ∨ k = 10 ∨ k = 11 := by omega
 · exact args_fwd0 r x h
 · exact args_fwd1 r x h
 · exact args_fwd2 r x h
 · exact args_fwd3 r x h
 · exact args_fwd4 r x h
 · exact args_fwd5 r x h
 · exact args_fwd6 r x h
 · exact args_fwd7 r x h
 · exact args_fwd8 r x h
 · exact args_fwd9 r x h
 · exact args_fwd10 r x h
 · exact args_fwd11 r x h
theorem args_back0 (x : ActL) (hk : x.k = 0) (hr : rightL x = true) (hi : inL x) : argsP 0 (saidL x) = some x := by
 unfold rightL at hr
 simp only [Bool.and_eq_true, Bool.or_eq_true, decide_eq_true_eq] at hr
 obtain ⟨-, -, n1, n2, n3, n4, n5, hz, h2⟩ := hr
 replace hz := eqL_iff.1 hz
 obtain ⟨k, at_, id, n, s, a, b, on, v6, hi', lo, pk, ps⟩ := x
 obtain ⟨i1, i2, i3, i4⟩ := hi
 subst hk
 have hz' := hz
 simp [bareL, zeroL] at hz'
 simp only at i1 i2 i3 i4 n1 n2 n3 n4 n5 h2
 have q0 := (numP_iff (Lib.itoa at_) at_).2 ⟨n1, rfl⟩
 have q1 := (digP_iff (Lib.decDigits a) 18446744073709551615 a).2 ⟨by omega, rfl⟩
 have q2 := (digP_iff (Lib.decDigits b) 18446744073709551615 b).2 ⟨by omega, rfl⟩
 have q3 := (bytesP_iff (textL s) s).2 rfl
 show ((numP (Lib.itoa at_)).bind fun x => (digP (Lib.decDigits a) 18446744073709551615).bind fun y => (digP (Lib.decDigits b) 18446744073709551615).bind fun z => (bytesP (textL s)).map fun s => (⟨0, x, 0, 0, s, y, z, false, false, 0, 0, 0, 0⟩ : ActL)) = some _
 rw [q0, q1, q2, q3]
 simp [hz']
theorem args_back1 (x : ActL) (hk : x.k = 1) (hr : rightL x = true) (hi : inL x) : argsP 1 (saidL x) = some x := by
 unfold rightL at hr
 simp only [Bool.and_eq_true, Bool.or_eq_true, decide_eq_true_eq] at hr
 obtain ⟨-, -, n1, n2, n3, n4, n5, hz, h2⟩ := hr
 replace hz := eqL_iff.1 hz
 obtain ⟨k, at_, id, n, s, a, b, on, v6, hi', lo, pk, ps⟩ := x
 obtain ⟨i1, i2, i3, i4⟩ := hi
 subst hk
 have hz' := hz
 simp [bareL, zeroL] at hz'
 simp only at i1 i2 i3 i4 n1 n2 n3 n4 n5 h2
 have q0 := (numP_iff (Lib.itoa id) id).2 ⟨n2, rfl⟩
 have q1 := (bytesP_iff (textL s) s).2 rfl
 show ((numP (Lib.itoa id)).bind fun x => (bytesP (textL s)).map fun s => (⟨1, 0, x, 0, s, 0, 0, false, false, 0, 0, 0, 0⟩ : ActL)) = some _
 rw [q0, q1]
 simp [hz']
theorem args_back2 (x : ActL) (hk : x.k = 2) (hr : rightL x = true) (hi : inL x) : argsP 2 (saidL x) = some x := by
 unfold rightL at hr
 simp only [Bool.and_eq_true, Bool.or_eq_true, decide_eq_true_eq] at hr
 obtain ⟨-, -, n1, n2, n3, n4, n5, hz, h2⟩ := hr
 replace hz := eqL_iff.1 hz
 obtain ⟨k, at_, id, n, s, a, b, on, v6, hi', lo, pk, ps⟩ := x
 obtain ⟨i1, i2, i3, i4⟩ := hi
 subst hk
 have hz' := hz
 simp [bareL, zeroL] at hz'
 simp only at i1 i2 i3 i4 n1 n2 n3 n4 n5 h2
 have q0 := (numP_iff (Lib.itoa n) n).2 ⟨n3, rfl⟩
 have q1 := readA_txt (⟨h2.resolve_left (fun h => h rfl), i3, i4⟩ : adrIn v6 hi' lo)
 show ((numP (Lib.itoa n)).bind fun x => (readA (adrTxt v6 hi' lo)).map fun a => (⟨2, 0, 0, x, [], 0, 0, false, a.1, a.2.1, a.2.2, 0, 0⟩ : ActL)) = some _
 rw [q0, q1]
 simp [hz']
theorem args_back3 (x : ActL) (hk : x.k = 3) (hr : rightL x = true) (hi : inL x) : argsP 3 (saidL x) = some x := by
 unfold rightL at hr
 simp only [Bool.and_eq_true, Bool.or_eq_true, decide_eq_true_eq] at hr
 obtain ⟨-, -, n1, n2, n3, n4, n5, hz, h2⟩ := hr
 replace hz := eqL_iff.1 hz
 obtain ⟨k, at_, id, n, s, a, b, on, v6, hi', lo, pk, ps⟩ := x
 obtain ⟨i1, i2, i3, i4⟩ := hi
 subst hk
 have hz' := hz
 simp [bareL, zeroL] at hz'
 simp only at i1 i2 i3 i4 n1 n2 n3 n4 n5 h2
 have q0 := (numP_iff (Lib.itoa id) id).2 ⟨n2, rfl⟩
 show ((numP (Lib.itoa id)).map fun x => (⟨3, 0, x, 0, [], 0, 0, false, false, 0, 0, 0, 0⟩ : ActL)) = some _
 rw [q0]
 simp [hz']
theorem args_back4 (x : ActL) (hk : x.k = 4) (hr : rightL x = true) (hi : inL x) : argsP 4 (saidL x) = some x := by
 unfold rightL at hr
 simp only [Bool.and_eq_true, Bool.or_eq_true, decide_eq_true_eq] at hr
 obtain ⟨-, -, n1, n2, n3, n4, n5, hz, h2⟩ := hr
 replace hz := eqL_iff.1 hz
 obtain ⟨k, at_, id, n, s, a, b, on, v6, hi', lo, pk, ps⟩ := x
 obtain ⟨i1, i2, i3, i4⟩ := hi
 subst hk
 have hz' := hz
 simp [bareL, zeroL] at hz'
 simp only at i1 i2 i3 i4 n1 n2 n3 n4 n5 h2
 have q0 := (numP_iff (Lib.itoa id) id).2 ⟨n2, rfl⟩
 have q1 := (onP_iff (onL on) on).2 rfl
 show ((numP (Lib.itoa id)).bind fun x => (onP (onL on)).map fun b => (⟨4, 0, x, 0, [], 0, 0, b, false, 0, 0, 0, 0⟩ : ActL)) = some _
 rw [q0, q1]
 simp [hz']
theorem args_back5 (x : ActL) (hk : x.k = 5) (hr : rightL x = true) (hi : inL x) : argsP 5 (saidL x) = some x := by
 unfold rightL at hr
 simp only [Bool.and_eq_true, Bool.or_eq_true, decide_eq_true_eq] at hr
 obtain ⟨-, -, n1, n2, n3, n4, n5, hz, h2⟩ := hr
 replace hz := eqL_iff.1 hz
 obtain ⟨k, at_, id, n, s, a, b, on, v6, hi', lo, pk, ps⟩ := x
 obtain ⟨i1, i2, i3, i4⟩ := hi
 subst hk
 have hz' := hz
 simp [bareL, zeroL] at hz'
 simp only at i1 i2 i3 i4 n1 n2 n3 n4 n5 h2
 have q0 := (numP_iff (Lib.itoa id) id).2 ⟨n2, rfl⟩
 have q1 := (numP_iff (Lib.itoa n) n).2 ⟨n3, rfl⟩
 show ((numP (Lib.itoa id)).bind fun x => (numP (Lib.itoa n)).map fun y => (⟨5, 0, x, y, [], 0, 0, false, false, 0, 0, 0, 0⟩ : ActL)) = some _
 rw [q0, q1]
 simp [hz']
theorem args_back6 (x : ActL) (hk : x.k = 6) (hr : rightL x = true) (hi : inL x) : argsP 6 (saidL x) = some x := by
 unfold rightL at hr
 simp only [Bool.and_eq_true, Bool.or_eq_true, decide_eq_true_eq] at hr
 obtain ⟨-, -, n1, n2, n3, n4, n5, hz, h2⟩ := hr
 replace hz := eqL_iff.1 hz
 obtain ⟨k, at_, id, n, s, a, b, on, v6, hi', lo, pk, ps⟩ := x
 obtain ⟨i1, i2, i3, i4⟩ := hi
 subst hk
 have hz' := hz
 simp [bareL, zeroL] at hz'
 simp only at i1 i2 i3 i4 n1 n2 n3 n4 n5 h2
 have q0 := (numP_iff (Lib.itoa id) id).2 ⟨n2, rfl⟩
 have q1 := (onP_iff (onL on) on).2 rfl
 show ((numP (Lib.itoa id)).bind fun x => (onP (onL on)).map fun b => (⟨6, 0, x, 0, [], 0, 0, b, false, 0, 0, 0, 0⟩ : ActL)) = some _
 rw [q0, q1]
 simp [hz']
theorem args_back7 (x : ActL) (hk : x.k = 7) (hr : rightL x = true) (hi : inL x) : argsP 7 (saidL x) = some x := by
 unfold rightL at hr
 simp only [Bool.and_eq_true, Bool.or_eq_true, decide_eq_true_eq] at hr
 obtain ⟨-, -, n1, n2, n3, n4, n5, hz, h2⟩ := hr
 replace hz := eqL_iff.1 hz
 obtain ⟨k, at_, id, n, s, a, b, on, v6, hi', lo, pk, ps⟩ := x
 obtain ⟨i1, i2, i3, i4⟩ := hi
 subst hk
 have hz' := hz
 simp [bareL, zeroL] at hz'
 simp only at i1 i2 i3 i4 n1 n2 n3 n4 n5 h2
 have q0 := (numP_iff (Lib.itoa pk) pk).2 ⟨n4, rfl⟩
 have q1 := (numP_iff (Lib.itoa ps) ps).2 ⟨n5, rfl⟩
 show ((numP (Lib.itoa pk)).bind fun x => (numP (Lib.itoa ps)).map fun y => (⟨7, 0, 0, 0, [], 0, 0, false, false, 0, 0, x, y⟩ : ActL)) = some _
 rw [q0, q1]
 simp [hz']
theorem args_back8 (x : ActL) (hk : x.k = 8) (hr : rightL x = true) (hi : inL x) : argsP 8 (saidL x) = some x := by
 unfold rightL at hr
 simp only [Bool.and_eq_true, Bool.or_eq_true, decide_eq_true_eq] at hr
 obtain ⟨-, -, n1, n2, n3, n4, n5, hz, h2⟩ := hr
 replace hz := eqL_iff.1 hz
 obtain ⟨k, at_, id, n, s, a, b, on, v6, hi', lo, pk, ps⟩ := x
 obtain ⟨i1, i2, i3, i4⟩ := hi
 subst hk
 have hz' := hz
 simp [bareL, zeroL] at hz'
 simp only at i1 i2 i3 i4 n1 n2 n3 n4 n5 h2
 have q0 := (onP_iff (onL on) on).2 rfl
 show ((onP (onL on)).map fun b => (⟨8, 0, 0, 0, [], 0, 0, b, false, 0, 0, 0, 0⟩ : ActL)) = some _
 rw [q0]
 simp [hz']
theorem args_back9 (x : ActL) (hk : x.k = 9) (hr : rightL x = true) (hi : inL x) : argsP 9 (saidL x) = some x := by
 unfold rightL at hr
 simp only [Bool.and_eq_true, Bool.or_eq_true, decide_eq_true_eq] at hr
 obtain ⟨-, -, n1, n2, n3, n4, n5, hz, h2⟩ := hr
 replace hz := eqL_iff.1 hz
 obtain ⟨k, at_, id, n, s, a, b, on, v6, hi', lo, pk, ps⟩ := x
 obtain ⟨i1, i2, i3, i4⟩ := hi
 subst hk
 have hz' := hz
 simp [bareL, zeroL] at hz'
 simp only at i1 i2 i3 i4 n1 n2 n3 n4 n5 h2
 have q0 := (numP_iff (Lib.itoa at_) at_).2 ⟨n1, rfl⟩
 show ((numP (Lib.itoa at_)).map fun x => (⟨9, x, 0, 0, [], 0, 0, false, false, 0, 0, 0, 0⟩ : ActL)) = some _
 rw [q0]
 simp [hz']
theorem args_back10 (x : ActL) (hk : x.k = 10) (hr : rightL x = true) (hi : inL x) : argsP 10 (saidL x) = some x := by
 unfold rightL at hr
 simp only [Bool.and_eq_true, Bool.or_eq_true, decide_eq_true_eq] at hr
 obtain ⟨-, -, n1, n2, n3, n4, n5, hz, h2⟩ := hr
 replace hz := eqL_iff.1 hz
 obtain ⟨k, at_, id, n, s, a, b, on, v6, hi', lo, pk, ps⟩ := x
 obtain ⟨i1, i2, i3, i4⟩ := hi
 subst hk
 have hz' := hz
 simp [bareL, zeroL] at hz'
 simp only at i1 i2 i3 i4 n1 n2 n3 n4 n5 h2
 have q0 := (numP_iff (Lib.itoa at_) at_).2 ⟨n1, rfl⟩
 show ((numP (Lib.itoa at_)).map fun x => (⟨10, x, 0, 0, [], 0, 0, false, false, 0, 0, 0, 0⟩ : ActL)) = some _
 rw [q0]
 simp [hz']
theorem args_back11 (x : ActL) (hk : x.k = 11) (hr : rightL x = true) (hi : inL x) : argsP 11 (saidL x) = some x := by
 unfold rightL at hr
 simp only [Bool.and_eq_true, Bool.or_eq_true, decide_eq_true_eq] at hr
 obtain ⟨-, -, n1, n2, n3, n4, n5, hz, h2⟩ := hr
 replace hz := eqL_iff.1 hz
 obtain ⟨k, at_, id, n, s, a, b, on, v6, hi', lo, pk, ps⟩ := x
 obtain ⟨i1, i2, i3, i4⟩ := hi
 subst hk
 have hz' := hz
 simp [bareL, zeroL] at hz'
 simp only at i1 i2 i3 i4 n1 n2 n3 n4 n5 h2
 have q0 := (numP_iff (Lib.itoa n) n).2 ⟨n3, rfl⟩
 show ((numP (Lib.itoa n)).map fun x => (⟨11, 0, 0, x, [], 0, 0, false, false, 0, 0, 0, 0⟩ : ActL)) = some _
 rw [q0]
 simp [hz']
theorem args_back (x : ActL) (hr : rightL x = true) (hi : inL x) : argsP x.k.toNat (saidL x) = some x := by
 have h01 : 0 ≤ x.k ∧ x.k ≤ 11 := by
  unfold rightL at hr
  simp only [Bool.and_eq_true, decide_eq_true_eq] at hr
  exact ⟨hr.1, hr.2.1⟩
 obtain h | h | h | h | h | h | h | h | h | h | h | h : x.k = 0 ∨ x.k = 1 ∨ x.k = 2 ∨ x.k = 3 ∨ x.k = 4 ∨ x.k = 5 ∨ x.k = 6 ∨ x.k = 7 ∨ x.k = 8 ∨ x.k = 9 ∨ x.k = 10 ∨ x.k = 11 := by omega
 · rw [h]; exact args_back0 x h hr hi
 · rw [h]; exact args_back1 x h hr hi
 · rw [h]; exact args_back2 x h hr hi
 · rw [h]; exact args_back3 x h hr hi
 · rw [h]; exact args_back4 x h hr hi
 · rw [h]; exact args_back5 x h hr hi
 · rw [h]; exact args_back6 x h hr hi
 · rw [h]; exact args_back7 x h hr hi
 · rw [h]; exact args_back8 x h hr hi
 · rw [h]; exact args_back9 x h hr hi
 · rw [h]; exact args_back10 x h hr hi
 · rw [h]; exact args_back11 x h hr hi
theorem right_k {x : ActL} (h : rightL x = true) : 0 ≤ x.k ∧ x.k ≤ 11 := by
 unfold rightL at h
 simp only [Bool.and_eq_true, decide_eq_true_eq] at h
 exact ⟨h.1, h.2.1⟩
theorem parse_iff (l : List UInt8) (x : ActL) : parseP l = some x ↔ rightL x = true ∧ inL x ∧ lineL x = l := by
 unfold parseP
 constructor
 ·
  intro h
  cases hp : parts 32 l with
  | nil => rw [hp] at h; cases h
  | cons w r =>
   rw [hp] at h
   obtain ⟨k, hk, hx⟩ := Option.bind_eq_some_iff.1 (show (kindP w).bind (fun k => argsP k r) = some x from h)
   obtain ⟨k1, k2⟩ := (kindP_iff w k).1 hk
   obtain ⟨e1, e2, e3, e4⟩ := args_fwd k k1 r x hx
   refine ⟨e3, e4, line_of hp ?_ e2⟩
   rw [k2, e1]
   rfl
 ·
  rintro ⟨h1, h2, rfl⟩
  obtain ⟨k0, k1⟩ := right_k h1
  rw [parts_line x k0 k1]
  show (kindP _).bind (fun k => argsP k (saidL x)) = some x
  rw [(kindP_iff _ x.k.toNat).2 ⟨by omega, rfl⟩]
  exact args_back x h1 h2
end Go.Proofs.YtodbgjnccngljaaGreatDoor
