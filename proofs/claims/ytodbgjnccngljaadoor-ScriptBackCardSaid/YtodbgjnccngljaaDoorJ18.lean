/- script: what the cursor reads: numbers, draws, bytes, what is on, addresses. script: the lines' first words; the kind that the cursor reads. Plain: what is read of a line's words, one by one. script.act: between reads. -/
import Derived.Test.YtodbgjnccngljaaDoorJ17
import Derived.Test.YtodbgjnccngljaaDoorJ15
import Derived.Test.YtodbgjnccngljaaDoorJ10
namespace Go.Proofs.YtodbgjnccngljaaDoor
open Go Go.RowKit Go.Deep

theorem chg_below {g : Nat} {w w1 w2 : World} (h : Chg (· = g) w w1) (hb : Below w1.heap.size w1 w2) : Chg (· = g) w w2 := h.trans (Chg.of_below (F := (· = g)) hb) (fun _ _ h => h)
def takeP {α : Type} (p : List UInt8 → Option α) : List (List UInt8) → Option (α × List (List UInt8))
  | [] => none
  | x :: r => (p x).map fun v => (v, r)
/-- The reader f of a cursor reads a word by p. -/
def CReads {α : Type} (f : FuncId) (p : List UInt8 → Option α) (val : α → Value) : Prop :=
  ∀ (g : Nat) (ws : List (List UInt8)) (w : World), Std w → Cur w g ws → (∀ x ∈ ws, (32 : UInt8) ∉ x) → (restL ws).length ≤ 10000 →
    (∀ w1, Chg (· = g) w w1 → Std w1) →
    Calls Tryd.prog f #[.pointer (some ⟨g, 0, none⟩)] w fun e w' => Chg (· = g) w w' ∧ match takeP p ws with
      | some (v, r) => e = .returned (val v) ∧ Cur w' g r
      | none => e = thrown
theorem rest_head (x : List UInt8) (r : List (List UInt8)) : x.length ≤ (restL (x :: r)).length := by
  unfold restL
  cases r with
  | nil => rw [Lib.join_one]; exact Nat.le_refl _
  | cons y r => rw [join_cons2]; simp
theorem reads_of {α : Type} {f : FuncId} {p : List UInt8 → Option α} {val : α → Value}
    (hnil : ∀ (g : Nat) (w : World), Std w → Cur w g [] → (∀ w1, Chg (· = g) w w1 → Std w1) → Calls Tryd.prog f #[.pointer (some ⟨g, 0, none⟩)] w fun e w' => e = thrown ∧ Chg (· = g) w w')
    (hno : ∀ (g : Nat) (x : List UInt8) (r : List (List UInt8)) (w : World), Std w → Cur w g (x :: r) → (32 : UInt8) ∉ x → (restL (x :: r)).length ≤ 10000 → x.length ≤ 10000 → (∀ w1, Chg (· = g) w w1 → Std w1) → p x = none →
      Calls Tryd.prog f #[.pointer (some ⟨g, 0, none⟩)] w fun e w' => e = thrown ∧ Chg (· = g) w w')
    (hyes : ∀ (g : Nat) (x : List UInt8) (r : List (List UInt8)) (w : World) (v : α), Std w → Cur w g (x :: r) → (32 : UInt8) ∉ x → (restL (x :: r)).length ≤ 10000 → x.length ≤ 10000 → (∀ w1, Chg (· = g) w w1 → Std w1) → p x = some v →
      Calls Tryd.prog f #[.pointer (some ⟨g, 0, none⟩)] w fun e w' => e = .returned (val v) ∧ Cur w' g r ∧ Chg (· = g) w w') : CReads f p val := by
  intro g ws w hw hc hx hl hs
  cases ws with
  | nil =>
    refine (hnil g w hw hc hs).mono ?_
    rintro e w' ⟨rfl, hk⟩
    exact ⟨hk, rfl⟩
  | cons x r =>
    have hxl := rest_head x r
    cases hp : p x with
    | none =>
      refine (hno g x r w hw hc (hx x (List.mem_cons_self ..)) hl (by omega) hs hp).mono ?_
      rintro e w' ⟨rfl, hk⟩
      refine ⟨hk, ?_⟩
      simp only [takeP, hp, Option.map_none]
    | some v =>
      refine (hyes g x r w v hw hc (hx x (List.mem_cons_self ..)) hl (by omega) hs hp).mono ?_
      rintro e w' ⟨rfl, hc', hk⟩
      refine ⟨hk, ?_⟩
      simp only [takeP, hp, Option.map_some]
      exact ⟨trivial, hc'⟩
theorem cur_set3 {w : World} {g b : Nat} {r : List (List UInt8)} (h : Cur w g r) (hb : g ≠ b) (x y z : Value) : Cur (((w.setCell ⟨b, 0, none⟩ x).setCell ⟨b, 1, none⟩ y).setCell ⟨b, 2, none⟩ z) g r := by
  unfold Cur Blk at h ⊢
  simp [World.setCell, Array.getElem?_modify, h, Ne.symm hb]
theorem pre_hit (q : List UInt8) : Lib.hasPrefix (ByteArray.mk (45 :: q).toArray).data.toList (ByteArray.mk #[45]).data.toList = true := by
  show ([45] : List UInt8).isPrefixOf (45 :: q) = true
  simp [List.isPrefixOf]
theorem pre_trim (q : List UInt8) : Lib.trimPrefix (ByteArray.mk (45 :: q).toArray).data.toList (ByteArray.mk #[45]).data.toList = q := by
  unfold Lib.trimPrefix
  rw [pre_hit]
  rfl
theorem num_cases (x : List UInt8) : (Lib.trimPrefix (ByteArray.mk x.toArray).data.toList (ByteArray.mk #[45]).data.toList = x ∧ Lib.hasPrefix (ByteArray.mk x.toArray).data.toList (ByteArray.mk #[45]).data.toList = false ∧ numP x = (digP x 4611686018427387904).map fun (m : Nat) => (m : Int)) ∨
    ∃ q, x = 45 :: q ∧ numP x = match digP q 4611686018427387904 with
      | some n => if 0 < n then some (-(n : Int)) else none
      | none => none := by
  cases x with
  | nil => exact Or.inl ⟨rfl, rfl, rfl⟩
  | cons c q =>
    by_cases hc : c = 45
    · subst hc
      exact Or.inr ⟨q, rfl, rfl⟩
    · have hf : Lib.hasPrefix (ByteArray.mk (c :: q).toArray).data.toList (ByteArray.mk #[45]).data.toList = false := by
        show ([45] : List UInt8).isPrefixOf (c :: q) = false
        simp [List.isPrefixOf]
        exact fun h => hc h.symm
      refine Or.inl ⟨?_, hf, ?_⟩
      · unfold Lib.trimPrefix
        rw [hf]
        rfl
      · show (if c = 45 then _ else _) = _
        rw [if_neg hc]
theorem dig_none {l : List UInt8} {m : Nat} {w : World} (h9 : 9 ≤ m) (hm : m < 18446744073709551616) (hL : l.length ≤ 10000) (h : digP l m = none) :
    Calls Tryd.prog 90 #[.string ⟨l.toArray⟩, .int .u64 (m : Nat)] w fun e w' => e = thrown ∧ Below w.heap.size w w' := by
  have := scr_digits l m w h9 hm (by omega)
  rw [h] at this
  exact this
theorem dig_some {l : List UInt8} {m n : Nat} {w : World} (h9 : 9 ≤ m) (hm : m < 18446744073709551616) (hL : l.length ≤ 10000) (h : digP l m = some n) :
    Calls Tryd.prog 90 #[.string ⟨l.toArray⟩, .int .u64 (m : Nat)] w fun e w' => e = .returned (.int .u64 (n : Nat)) ∧ Below w.heap.size w w' := by
  have := scr_digits l m w h9 hm (by omega)
  rw [h] at this
  exact this

set_option maxRecDepth 100000 in
theorem reads_draw : CReads 65 (fun x => digP x 18446744073709551615) (fun n => .int .u64 ((n : Nat) : Int)) := by
  refine reads_of ?_ ?_ ?_
  · intro g w hw hc hs
    have C := Lib.hid (cur_done g w hc)
    go_enter Tryd.func65, Tryd.ntmps65
    go_wp2_with (go_at_call 88; (refine C.out.mono ?_); rintro e w1 ⟨rfl, rfl⟩)
    exact ⟨rfl, rfl, Chg.refl _ _⟩
  · intro g x r w hw hc hx hl hxl hs hp
    have C := Lib.hid (cur_word g x r w hw hc hx (by omega))
    have G := Lib.hid (fun W => dig_none (w := W) (l := x) (m := 18446744073709551615) (by decide) (by decide) hxl hp)
    go_enter Tryd.func65, Tryd.ntmps65
    go_wp2_with (first
      | (go_at_call 88; (refine C.out.mono ?_); rintro e w1 ⟨rfl, hc1, hk1⟩)
      | (go_at_call 90; (refine (G.out _).mono ?_); rintro e w2 ⟨rfl, hb2⟩))
    exact ⟨rfl, rfl, chg_below hk1 hb2⟩
  · intro g x r w v hw hc hx hl hxl hs hp
    have C := Lib.hid (cur_word g x r w hw hc hx (by omega))
    have G := Lib.hid (fun W => dig_some (w := W) (l := x) (m := 18446744073709551615) (by decide) (by decide) hxl hp)
    go_enter Tryd.func65, Tryd.ntmps65
    go_wp2_with (first
      | (go_at_call 88; (refine C.out.mono ?_); rintro e w1 ⟨rfl, hc1, hk1⟩)
      | (go_at_call 90; (refine (G.out _).mono ?_); rintro e w2 ⟨rfl, hb2⟩))
    go_ret
    exact ⟨rfl, Blk.call hc1 hb2, chg_below hk1 hb2⟩
set_option maxRecDepth 100000 in
theorem reads_number : CReads 64 numP (fun n => .int .i64 n) := by
  refine reads_of ?_ ?_ ?_
  · intro g w hw hc hs
    have C := Lib.hid (cur_done g w hc)
    go_enter Tryd.func64, Tryd.ntmps64
    go_wp2_with (go_at_call 88; (refine C.out.mono ?_); rintro e w1 ⟨rfl, rfl⟩)
    exact ⟨rfl, rfl, Chg.refl _ _⟩
  · intro g x r w hw hc hx hl hxl hs hp
    have C := Lib.hid (cur_word g x r w hw hc hx (by omega))
    have P := fun W => Tryd.strings_CutPrefix ⟨x.toArray⟩ ⟨#[45]⟩ W
    have MT := Lib.hid must_true
    have MF := Lib.hid must_false
    rcases num_cases x with ⟨hf, hne, hnum⟩ | ⟨q, rfl, hnum⟩
    · rw [hf, hne] at P
      rw [hnum] at hp
      have hd : digP x 4611686018427387904 = none := by
        cases h : digP x 4611686018427387904 with
        | none => rfl
        | some n => rw [h] at hp; cases hp
      have G := Lib.hid (fun W => dig_none (w := W) (l := x) (m := 4611686018427387904) (by decide) (by decide) hxl hd)
      replace P := Lib.hid P
      clear hp hnum hd hf hne hc
      go_enter Tryd.func64, Tryd.ntmps64
      go_wp2_with (first
        | (go_at_call 88; (refine C.out.mono ?_); rintro e w1 ⟨rfl, hc1, hk1⟩)
        | (go_at_call 89; (refine (P.out _).mono ?_); rintro e w5 ⟨rfl, rfl⟩)
        | (go_at_call 90; (refine (G.out _).mono ?_); rintro e w2 ⟨rfl, hb2⟩))
      exact ⟨rfl, rfl, chg_below hk1 hb2⟩
    · rw [pre_hit, pre_trim] at P
      rw [hnum] at hp
      have hql : q.length ≤ 10000 := by simp at hxl; omega
      cases hd : digP q 4611686018427387904 with
      | none =>
        have G := Lib.hid (fun W => dig_none (w := W) (l := q) (m := 4611686018427387904) (by decide) (by decide) hql hd)
        replace P := Lib.hid P
        clear hp hnum hd hc
        go_enter Tryd.func64, Tryd.ntmps64
        go_wp2_with (first
          | (go_at_call 88; (refine C.out.mono ?_); rintro e w1 ⟨rfl, hc1, hk1⟩)
          | (go_at_call 89; (refine (P.out _).mono ?_); rintro e w5 ⟨rfl, rfl⟩)
          | (go_at_call 90; (refine (G.out _).mono ?_); rintro e w2 ⟨rfl, hb2⟩))
        exact ⟨rfl, rfl, chg_below hk1 hb2⟩
      | some n =>
        rw [hd] at hp
        have hn : ¬ 0 < n := fun h => by simp [h] at hp
        obtain rfl : n = 0 := by omega
        have G := Lib.hid (fun W => dig_some (w := W) (l := q) (m := 4611686018427387904) (by decide) (by decide) hql hd)
        replace P := Lib.hid P
        clear hp hnum hd hc
        go_enter Tryd.func64, Tryd.ntmps64
        go_wp2_with (first
          | (go_at_call 88; (refine C.out.mono ?_); rintro e w1 ⟨rfl, hc1, hk1⟩)
          | (go_at_call 89; (refine (P.out _).mono ?_); rintro e w5 ⟨rfl, rfl⟩)
          | (go_at_call 69; (refine (MF.out _).mono ?_); rintro e w6 ⟨rfl, rfl⟩)
          | (go_at_call 90; (refine (G.out _).mono ?_); rintro e w2 ⟨rfl, hb2⟩))
        exact ⟨rfl, rfl, chg_below hk1 hb2⟩
  · intro g x r w v hw hc hx hl hxl hs hp
    have C := Lib.hid (cur_word g x r w hw hc hx (by omega))
    have P := fun W => Tryd.strings_CutPrefix ⟨x.toArray⟩ ⟨#[45]⟩ W
    have MT := Lib.hid must_true
    rcases num_cases x with ⟨hf, hne, hnum⟩ | ⟨q, rfl, hnum⟩
    · rw [hf, hne] at P
      rw [hnum] at hp
      obtain ⟨n, hd, rfl⟩ := Option.map_eq_some_iff.1 hp
      have hn := ((digP_iff _ _ _).1 hd).1
      have G := Lib.hid (fun W => dig_some (w := W) (l := x) (m := 4611686018427387904) (by decide) (by decide) hxl hd)
      have hwi : IntKind.i64.wrap ((n : Nat) : Int) = ((n : Nat) : Int) := by rw [IntKind.wrap_i64]; omega
      replace P := Lib.hid P
      clear hp hnum hd hf hne hc
      go_enter Tryd.func64, Tryd.ntmps64
      go_wp2_with (first
        | (go_at_call 88; (refine C.out.mono ?_); rintro e w1 ⟨rfl, hc1, hk1⟩)
        | (go_at_call 89; (refine (P.out _).mono ?_); rintro e w5 ⟨rfl, rfl⟩)
        | (go_at_call 90; (refine (G.out _).mono ?_); rintro e w2 ⟨rfl, hb2⟩))
      go_ret
      exact ⟨rfl, Blk.call hc1 hb2, chg_below hk1 hb2⟩
    · rw [pre_hit, pre_trim] at P
      rw [hnum] at hp
      have hql : q.length ≤ 10000 := by simp at hxl; omega
      cases hd : digP q 4611686018427387904 with
      | none => rw [hd] at hp; cases hp
      | some n =>
        rw [hd] at hp
        have hn : 0 < n := Classical.byContradiction fun h => by simp [h] at hp
        have hv : v = -((n : Nat) : Int) := by simp [hn] at hp; exact hp.symm
        subst hv
        have hn2 := ((digP_iff _ _ _).1 hd).1
        have hd0 : (0 : Int) < (n : Int) := by omega
        have G := Lib.hid (fun W => dig_some (w := W) (l := q) (m := 4611686018427387904) (by decide) (by decide) hql hd)
        have hwi : IntKind.i64.wrap ((n : Nat) : Int) = ((n : Nat) : Int) := by rw [IntKind.wrap_i64]; omega
        have hwn : IntKind.i64.wrap (-((n : Nat) : Int)) = -((n : Nat) : Int) := by rw [IntKind.wrap_i64]; omega
        replace P := Lib.hid P
        clear hp hnum hd hc
        go_enter Tryd.func64, Tryd.ntmps64
        go_wp2_with (first
          | (go_at_call 88; (refine C.out.mono ?_); rintro e w1 ⟨rfl, hc1, hk1⟩)
          | (go_at_call 89; (refine (P.out _).mono ?_); rintro e w5 ⟨rfl, rfl⟩)
          | (go_at_call 69; (refine (MT.out _).mono ?_); rintro e w6 ⟨rfl, rfl⟩)
          | (go_at_call 90; (refine (G.out _).mono ?_); rintro e w2 ⟨rfl, hb2⟩))
        go_ret
        exact ⟨rfl, Blk.call hc1 hb2, chg_below hk1 hb2⟩

set_option maxRecDepth 100000 in
theorem reads_bytes : CReads 66 bytesP (fun s => .string ⟨s.toArray⟩) := by
  refine reads_of ?_ ?_ ?_
  · intro g w hw hc hs
    have C := Lib.hid (cur_done g w hc)
    go_enter Tryd.func66, Tryd.ntmps66
    go_wp2_with (go_at_call 88; (refine C.out.mono ?_); rintro e w1 ⟨rfl, rfl⟩)
    exact ⟨rfl, rfl, Chg.refl _ _⟩
  · intro g x r w hw hc hx hl hxl hs hp
    have C := Lib.hid (cur_word g x r w hw hc hx (by omega))
    have MF := Lib.hid must_false
    have U := fun W => oct_unhex x W (by omega)
    unfold bytesP at hp
    by_cases hd : x = [45]
    · rw [if_pos hd] at hp; cases hp
    rw [if_neg hd] at hp
    have he : (x == [45]) = false := by simpa using hd
    have e2 : (([] : List UInt8) != []) = false := rfl
    cases hu : unhexL x with
    | none =>
      unfold unhexV at U
      rw [hu] at U
      replace U := Lib.hid U
      clear hp hu hd hc
      go_enter Tryd.func66, Tryd.ntmps66
      go_wp2_with (first
        | (go_at_call 88; (refine C.out.mono ?_); rintro e w1 ⟨rfl, hc1, hk1⟩)
        | (go_at_call 69; (refine (MF.out _).mono ?_); rintro e w6 ⟨rfl, rfl⟩)
        | (go_at_call 47; (refine (U.out _).mono ?_); rintro e w2 ⟨rfl, hb2⟩))
      exact ⟨rfl, rfl, chg_below hk1 hb2⟩
    | some s =>
      rw [hu] at hp
      have hs0 : s = [] := Classical.byContradiction fun h => by simp [h] at hp
      subst hs0
      unfold unhexV at U
      rw [hu] at U
      replace U := Lib.hid U
      clear hp hu hd hc
      go_enter Tryd.func66, Tryd.ntmps66
      go_wp2_with (first
        | (go_at_call 88; (refine C.out.mono ?_); rintro e w1 ⟨rfl, hc1, hk1⟩)
        | (go_at_call 69; (refine (MF.out _).mono ?_); rintro e w6 ⟨rfl, rfl⟩)
        | (go_at_call 47; (refine (U.out _).mono ?_); rintro e w2 ⟨rfl, hb2⟩))
      exact ⟨rfl, rfl, chg_below hk1 hb2⟩
  · intro g x r w v hw hc hx hl hxl hs hp
    have C := Lib.hid (cur_word g x r w hw hc hx (by omega))
    have MT := Lib.hid must_true
    have U := fun W => oct_unhex x W (by omega)
    unfold bytesP at hp
    by_cases hd : x = [45]
    · rw [if_pos hd] at hp
      cases hp
      have he : (x == [45]) = true := by simpa using hd
      replace hd := Lib.hid hd
      clear U hc
      go_enter Tryd.func66, Tryd.ntmps66
      go_wp2_with (first
        | (go_at_call 88; (refine C.out.mono ?_); rintro e w1 ⟨rfl, hc1, hk1⟩))
      go_ret
      exact ⟨rfl, hc1, hk1⟩
    rw [if_neg hd] at hp
    have he : (x == [45]) = false := by simpa using hd
    cases hu : unhexL x with
    | none => rw [hu] at hp; cases hp
    | some s =>
      rw [hu] at hp
      have hs0 : ¬ s = [] := fun h => by simp [h] at hp
      have hv : s = v := by simpa [hs0] using hp
      subst hv
      have e2 : s.isEmpty = false := by cases s; exact absurd rfl hs0; rfl
      unfold unhexV at U
      rw [hu] at U
      replace U := Lib.hid U
      clear hp hu hd hc hs0
      go_enter Tryd.func66, Tryd.ntmps66
      go_wp2_with (first
        | (go_at_call 88; (refine C.out.mono ?_); rintro e w1 ⟨rfl, hc1, hk1⟩)
        | (go_at_call 69; (refine (MT.out _).mono ?_); rintro e w6 ⟨rfl, rfl⟩)
        | (go_at_call 47; (refine (U.out _).mono ?_); rintro e w2 ⟨rfl, hb2⟩))
      go_ret
      exact ⟨rfl, Blk.call hc1 hb2, chg_below hk1 hb2⟩

set_option maxRecDepth 100000 in
theorem reads_on : CReads 68 onP (fun b => .bool b) := by
  refine reads_of ?_ ?_ ?_
  · intro g w hw hc hs
    have C := Lib.hid (cur_done g w hc)
    go_enter Tryd.func68, Tryd.ntmps68
    go_wp2_with (go_at_call 88; (refine C.out.mono ?_); rintro e w1 ⟨rfl, rfl⟩)
    exact ⟨rfl, rfl, Chg.refl _ _⟩
  · intro g x r w hw hc hx hl hxl hs hp
    have C := Lib.hid (cur_word g x r w hw hc hx (by omega))
    have MF := Lib.hid must_false
    unfold onP at hp
    by_cases h1 : x = [111, 110]
    · rw [if_pos h1] at hp; cases hp
    rw [if_neg h1] at hp
    by_cases h2 : x = [111, 102, 102]
    · rw [if_pos h2] at hp; cases hp
    have e1 : (x == [111, 110]) = false := by simpa using h1
    have e2 : (x == [111, 102, 102]) = false := by simpa using h2
    clear h1 h2 hp hc
    go_enter Tryd.func68, Tryd.ntmps68
    go_wp2_with (first
      | (go_at_call 88; (refine C.out.mono ?_); rintro e w1 ⟨rfl, hc1, hk1⟩)
      | (go_at_call 69; (refine (MF.out _).mono ?_); rintro e w6 ⟨rfl, rfl⟩))
    exact ⟨rfl, rfl, hk1⟩
  · intro g x r w v hw hc hx hl hxl hs hp
    have C := Lib.hid (cur_word g x r w hw hc hx (by omega))
    have MT := Lib.hid must_true
    have hv := (onP_iff _ _).1 hp
    clear hp hc
    cases v
    · obtain rfl : x = [111, 102, 102] := hv
      have e1 : (([111, 102, 102] : List UInt8) == [111, 110]) = false := rfl
      have e2 : (([111, 102, 102] : List UInt8) == [111, 102, 102]) = true := rfl
      go_enter Tryd.func68, Tryd.ntmps68
      go_wp2_with (first
        | (go_at_call 88; (refine C.out.mono ?_); rintro e w1 ⟨rfl, hc1, hk1⟩)
        | (go_at_call 69; (refine (MT.out _).mono ?_); rintro e w6 ⟨rfl, rfl⟩))
      go_ret
      exact ⟨rfl, hc1, hk1⟩
    · have e1 : (x == [111, 110]) = true := by rw [hv]; rfl
      clear hv
      go_enter Tryd.func68, Tryd.ntmps68
      go_wp2_with (first
        | (go_at_call 88; (refine C.out.mono ?_); rintro e w1 ⟨rfl, hc1, hk1⟩)
        | (go_at_call 69; (refine (MT.out _).mono ?_); rintro e w6 ⟨rfl, rfl⟩))
      go_ret
      exact ⟨rfl, hc1, hk1⟩

set_option maxRecDepth 100000 in
theorem reads_address : CReads 67 readA (fun a => .agg #[.bool a.1, .int .u64 ((a.2.1 : Nat) : Int), .int .u64 ((a.2.2 : Nat) : Int)]) := by
  refine reads_of ?_ ?_ ?_
  · intro g w hw hc hs
    have hb0 : Chg (· = g) w (w.alloc (.cells #[.bool false, .int .u64 0, .int .u64 0] 24)) := (Chg.refl _ _).alloc _
    have C := Lib.hid (cur_done g _ (hc.alloc (.cells #[.bool false, .int .u64 0, .int .u64 0] 24)))
    go_enter Tryd.func67, Tryd.ntmps67
    go_wp2_with (go_at_call 88; (refine C.out.mono ?_); rintro e w1 ⟨rfl, rfl⟩)
    exact ⟨rfl, rfl, hb0⟩
  · intro g x r w hw hc hx hl hxl hs hp
    have hb0 : Chg (· = g) w (w.alloc (.cells #[.bool false, .int .u64 0, .int .u64 0] 24)) := (Chg.refl _ _).alloc _
    have C := Lib.hid (cur_word g x r _ (hs _ hb0) (hc.alloc (.cells #[.bool false, .int .u64 0, .int .u64 0] 24)) hx (by omega))
    have MF := Lib.hid must_false
    have RD := fun W hW => addr_read x W hW hxl
    rw [hp] at RD
    replace RD := Lib.hid (show ∀ W, Std W → Calls Tryd.prog 9 #[.string ⟨x.toArray⟩] W fun e w' => e = .returned (.tuple #[.agg #[.bool false, .int .u64 0, .int .u64 0], .bool false]) ∧ Below W.heap.size W w' from RD)
    clear hp hc
    go_enter Tryd.func67, Tryd.ntmps67
    go_wp2_with (first
      | (go_at_call 88; (refine C.out.mono ?_); rintro e w1 ⟨rfl, hc1, hk1⟩; have hk1' := hb0.trans hk1 (fun _ _ h => h))
      | (go_at_call 69; (refine (MF.out _).mono ?_); rintro e w6 ⟨rfl, rfl⟩)
      | (go_at_call 9; (refine (RD.out _ (hs _ hk1')).mono ?_); rintro e w2 ⟨rfl, hb2⟩))
    exact ⟨rfl, rfl, (chg_below hk1' hb2).alloc _⟩
  · intro g x r w v hw hc hx hl hxl hs hp
    obtain ⟨v6, hi, lo⟩ := v
    have hb0 : Chg (· = g) w (w.alloc (.cells #[.bool false, .int .u64 0, .int .u64 0] 24)) := (Chg.refl _ _).alloc _
    have C := Lib.hid (cur_word g x r _ (hs _ hb0) (hc.alloc (.cells #[.bool false, .int .u64 0, .int .u64 0] 24)) hx (by omega))
    have K := Blk.new w 24 #[.bool false, .int .u64 0, .int .u64 0]
    have hgl : g < w.heap.size := Blk.lt hc
    have hgn : ¬ w.heap.size = g := by omega
    have MT := Lib.hid must_true
    have RD := fun W hW => addr_read x W hW hxl
    rw [hp] at RD
    replace RD := Lib.hid (show ∀ W, Std W → Calls Tryd.prog 9 #[.string ⟨x.toArray⟩] W fun e w' => e = .returned (.tuple #[.agg #[.bool v6, .int .u64 ((hi : Nat) : Int), .int .u64 ((lo : Nat) : Int)], .bool true]) ∧ Below W.heap.size W w' from RD)
    clear hp hc
    go_enter Tryd.func67, Tryd.ntmps67
    go_upto_region 2 with (first
      | (go_at_call 88; (refine C.out.mono ?_); rintro e w1 ⟨rfl, hc1, hk1⟩; have hk1' := hb0.trans hk1 (fun _ _ h => h))
      | (go_at_call 9; (refine (RD.out _ (hs _ hk1')).mono ?_); rintro e w2 ⟨rfl, hb2⟩))
    have K2 := ((K.chg hk1 hgn).call hb2).alloc (.cells #[.bool v6, .int .u64 ((hi : Nat) : Int), .int .u64 ((lo : Nat) : Int)] 24)
    have K3 := Blk.new w2 24 #[.bool v6, .int .u64 ((hi : Nat) : Int), .int .u64 ((lo : Nat) : Int)]
    have hC2 : Cur (w2.alloc (.cells #[.bool v6, .int .u64 ((hi : Nat) : Int), .int .u64 ((lo : Nat) : Int)] 24)) g r := Blk.alloc (Blk.call hc1 hb2) _
    have hkA := (chg_below hk1' hb2).alloc (.cells #[.bool v6, .int .u64 ((hi : Nat) : Int), .int .u64 ((lo : Nat) : Int)] 24)
    generalize w2.alloc (.cells #[.bool v6, .int .u64 ((hi : Nat) : Int), .int .u64 ((lo : Nat) : Int)] 24) = w3 at *
    clear hk1 hk1' hb2 hc1 K
    obtain ⟨⟨c0, c1, c2⟩, f0, f1, f2⟩ := blk3 K2
    obtain ⟨⟨d0, d1, d2⟩, -, -, -⟩ := blk3 K3
    replace K2 := Lib.hid K2
    replace K3 := Lib.hid K3
    replace hC2 := Lib.hid hC2
    go_wp2_with (go_at_call 69; (refine (MT.out _).mono ?_); rintro e w6 ⟨rfl, rfl⟩)
    have K4 := blk3_set K2.out (.bool v6) (.int .u64 ((hi : Nat) : Int)) (.int .u64 ((lo : Nat) : Int))
    have hkB : Chg (· = g) w (((w3.setCell ⟨w.heap.size, 0, none⟩ (.bool v6)).setCell ⟨w.heap.size, 1, none⟩ (.int .u64 ((hi : Nat) : Int))).setCell ⟨w.heap.size, 2, none⟩ (.int .u64 ((lo : Nat) : Int))) :=
      ((hkA.setCell (fun h => absurd h (by show ¬ w.heap.size < w.heap.size; omega)) _).setCell (fun h => absurd h (by show ¬ w.heap.size < w.heap.size; omega)) _).setCell (fun h => absurd h (by show ¬ w.heap.size < w.heap.size; omega)) _
    have hC4 : Cur (((w3.setCell ⟨w.heap.size, 0, none⟩ (.bool v6)).setCell ⟨w.heap.size, 1, none⟩ (.int .u64 ((hi : Nat) : Int))).setCell ⟨w.heap.size, 2, none⟩ (.int .u64 ((lo : Nat) : Int))) g r := cur_set3 hC2.out (by omega) _ _ _
    generalize (((w3.setCell ⟨w.heap.size, 0, none⟩ (.bool v6)).setCell ⟨w.heap.size, 1, none⟩ (.int .u64 ((hi : Nat) : Int))).setCell ⟨w.heap.size, 2, none⟩ (.int .u64 ((lo : Nat) : Int))) = w4 at *
    clear c0 c1 c2 f0 f1 f2 d0 d1 d2
    obtain ⟨⟨c0, c1, c2⟩, f0, f1, f2⟩ := blk3 K4
    clear K4
    refine bodyPost_ret (v := .agg #[.bool v6, .int .u64 ((hi : Nat) : Int), .int .u64 ((lo : Nat) : Int)]) (by simp [results, Tryd.results67, go_sem, *]) rfl ?_
    exact ⟨rfl, hC4, hkB⟩
end Go.Proofs.YtodbgjnccngljaaDoor

namespace Go.Proofs.YtodbgjnccngljaaDoor
open Go Go.RowKit Go.Deep

set_option maxRecDepth 100000 in
theorem scr_words (w : World) : Calls Tryd.prog 56 #[] w fun e w' =>
    e = .returned (.slice (some ⟨w.heap.size, 0, none⟩) 12 12) ∧ Blk w' w.heap.size 9 (strs wordsL) ∧ Below w.heap.size w w' := by
  have K := Blk.new w 9 (strs wordsL)
  have hb : Below w.heap.size w (w.alloc (.cells (strs wordsL) 9)) := (Below.refl _ _).alloc (Nat.le_refl _) _
  go_enter Tryd.func56, Tryd.ntmps56
  go_wp2_with fail
  go_ret
  exact ⟨rfl, K, hb⟩
theorem kind_hit {x : List UInt8} {j : Nat} (hj : j < 12) (h : wordsL.getD j [] = x) : kindP x = some j := (kindP_iff x j).2 ⟨hj, h.symm⟩
theorem kind_miss {x : List UInt8} (h : ∀ t, t < 12 → wordsL.getD t [] ≠ x) : kindP x = none := by
  cases hk : kindP x with
  | none => rfl
  | some k =>
    obtain ⟨h1, h2⟩ := (kindP_iff x k).1 hk
    exact absurd h2.symm (h k h1)

def kindE : Option Nat → Ending
  | some k => .returned (.int .i64 ((k : Nat) : Int))
  | none => thrown
set_option maxRecDepth 100000 in
theorem kind_any (g : Nat) (x : List UInt8) (r : List (List UInt8)) (w : World) (hw : Std w) (hc : Cur w g (x :: r)) (hx : (32 : UInt8) ∉ x) (hl : (restL (x :: r)).length ≤ 10000) :
    Calls Tryd.prog 63 #[.pointer (some ⟨g, 0, none⟩)] w fun e w' => e = kindE (kindP x) ∧ Cur w' g r ∧ Chg (· = g) w w' := by
  have C := Lib.hid (cur_word g x r w hw hc hx (by omega))
  have MF := Lib.hid must_false
  have WS := Lib.hid scr_words
  obtain ⟨p, hp⟩ : ∃ p, kindP x = p := ⟨_, rfl⟩
  rw [hp]
  replace hp := Lib.hid hp
  clear hc
  go_enter Tryd.func63, Tryd.ntmps63
  go_wp2_with (first
    | (go_at_call 88; (refine C.out.mono ?_); rintro e w1 ⟨rfl, hc1, hk1⟩)
    | (go_at_call 56; (refine (WS.out _).mono ?_); rintro e w2 ⟨rfl, hK2, hb2⟩))
  have hc2 : Cur w2 g r := Blk.call hc1 hb2
  have hk2 := chg_below hk1 hb2
  generalize w1.heap.size = b at *
  clear hc1 hk1 hb2
  go_loopw [10] (fun i wr => ∃ j : Nat, j ≤ 12 ∧ i = .int .i64 (j : Nat) ∧ (∀ t, t < j → wordsL.getD t [] ≠ x) ∧ Below w2.heap.size w2 wr) (fun i _ => 12 - (intOf i).toNat)
  case atStart => exact ⟨0, by omega, rfl, fun t h => absurd h (by omega), Below.refl _ _⟩
  case round =>
    obtain ⟨j, hj, rfl, hm, hb⟩ := hrel
    by_cases hlt : j < 12
    · have hlti : (j : Int) < 12 := by omega
      have c0 : wr.cell? ⟨b, j, none⟩ = some (.string ⟨(wordsL.getD j []).toArray⟩) := by
        have := (hK2.below hb hK2.lt).cell j
        rw [this]
        have hlen : wordsL.length = 12 := rfl
        unfold strs
        rw [List.getElem?_toArray, List.getElem?_map, List.getD_eq_getElem?_getD, List.getElem?_eq_getElem (by omega)]
        rfl
      obtain ⟨y, hy⟩ : ∃ y, wordsL.getD j [] = y := ⟨_, rfl⟩
      rw [hy] at c0
      by_cases hyx : y = x
      · subst hyx
        have hq := hp.out
        rw [kind_hit hlt hy] at hq
        subst hq
        have e1 : (y == y) = true := by simp
        replace hm := Lib.hid hm
        clear hlt hy
        go_wp2_with fail
        go_ret
        exact ⟨rfl, Blk.call hc2 hb, chg_below hk2 hb⟩
      · have e1 : (y == x) = false := by simpa using hyx
        replace hm := Lib.hid hm
        replace hy := Lib.hid hy
        clear hlt
        go_wp2_with fail
        go_roundw
        case rel => exact ⟨j + 1, by omega, by go_num, fun t ht => by
          rcases Nat.lt_or_ge t j with h | h
          · exact hm.out t h
          · obtain rfl : t = j := by omega
            rw [hy.out]; exact hyx, hb⟩
        case measure => simp [intOf]; omega
    · have hlti : ¬ (j : Int) < 12 := by omega
      obtain rfl : j = 12 := by omega
      have hq := hp.out
      rw [kind_miss hm] at hq
      subst hq
      clear hm hlt
      go_wp2_with (go_at_call 69; (refine (MF.out _).mono ?_); rintro e w6 ⟨rfl, rfl⟩)
      exact ⟨rfl, rfl, Blk.call hc2 hb, chg_below hk2 hb⟩
theorem reads_kind : CReads 63 kindP (fun k => .int .i64 ((k : Nat) : Int)) := by
  refine reads_of ?_ ?_ ?_
  · intro g w hw hc hs
    have C := Lib.hid (cur_done g w hc)
    go_enter Tryd.func63, Tryd.ntmps63
    go_wp2_with (go_at_call 88; (refine C.out.mono ?_); rintro e w1 ⟨rfl, rfl⟩)
    exact ⟨rfl, rfl, Chg.refl _ _⟩
  · intro g x r w hw hc hx hl hxl hs hp
    have := kind_any g x r w hw hc hx hl
    rw [hp] at this
    exact this.mono fun e w' ⟨h1, h2, h3⟩ => ⟨h1, h3⟩
  · intro g x r w v hw hc hx hl hxl hs hp
    have := kind_any g x r w hw hc hx hl
    rw [hp] at this
    exact this
end Go.Proofs.YtodbgjnccngljaaDoor

namespace Go.Proofs.YtodbgjnccngljaaDoor
open Go Go.RowKit Go.Deep

def seqT {α β : Type} (p : List UInt8 → Option α) (r : List (List UInt8)) (k : α → List (List UInt8) → Option β) : Option β := match takeP p r with
  | none => none
  | some (v, r1) => k v r1
def endT (x : ActL) (r : List (List UInt8)) : Option ActL := if r.isEmpty then some x else none
theorem bind_congr2 {α β : Type} {o : Option α} {f g : α → Option β} (h : ∀ a, f a = g a) : o.bind f = o.bind g := by
  cases o
  · rfl
  · exact h _
theorem map_bind {α β : Type} (o : Option α) (f : α → β) : o.map f = o.bind fun a => some (f a) := by cases o <;> rfl
theorem bind_none2 {α β : Type} (o : Option α) : (o.bind fun _ => (none : Option β)) = none := by cases o <;> rfl
theorem seqT_nil {α β : Type} (p : List UInt8 → Option α) (k : α → List (List UInt8) → Option β) : seqT p [] k = none := rfl
theorem seqT_cons {α β : Type} (p : List UInt8 → Option α) (x : List UInt8) (r : List (List UInt8)) (k : α → List (List UInt8) → Option β) : seqT p (x :: r) k = (p x).bind fun v => k v r := by
  have h : takeP p (x :: r) = (p x).map fun v => (v, r) := rfl
  unfold seqT
  rw [h]
  cases p x <;> rfl
theorem args_seq0 (r : List (List UInt8)) : argsP 0 r = seqT numP r fun x r1 => seqT (fun x => digP x 18446744073709551615) r1 fun y r2 => seqT (fun x => digP x 18446744073709551615) r2 fun z r3 => seqT bytesP r3 fun s r4 => endT ⟨0, x, 0, 0, s, y, z, false, false, 0, 0, 0, 0⟩ r4 := by
  rcases r with _ | ⟨p0, _ | ⟨p1, _ | ⟨p2, _ | ⟨p3, _ | ⟨q, t⟩⟩⟩⟩⟩
  · rfl
  · simp only [seqT_cons, seqT_nil, bind_none2]
    rfl
  · simp only [seqT_cons, seqT_nil, bind_none2]
    rfl
  · simp only [seqT_cons, seqT_nil, bind_none2]
    rfl
  · simp only [seqT_cons, endT, List.isEmpty_nil, if_true]
    simp only [argsP]
    repeat (first | rfl | (apply bind_congr2; intro))
    all_goals first | rfl | exact map_bind _ _
  · simp only [seqT_cons, endT, List.isEmpty_cons, Bool.false_eq_true, if_false, bind_none2]
    rfl
theorem args_seq1 (r : List (List UInt8)) : argsP 1 r = seqT numP r fun x r1 => seqT bytesP r1 fun s r2 => endT ⟨1, 0, x, 0, s, 0, 0, false, false, 0, 0, 0, 0⟩ r2 := by
  rcases r with _ | ⟨p0, _ | ⟨p1, _ | ⟨q, t⟩⟩⟩
  · rfl
  · simp only [seqT_cons, seqT_nil, bind_none2]
    rfl
  · simp only [seqT_cons, endT, List.isEmpty_nil, if_true]
    simp only [argsP]
    repeat (first | rfl | (apply bind_congr2; intro))
    all_goals first | rfl | exact map_bind _ _
  · simp only [seqT_cons, endT, List.isEmpty_cons, Bool.false_eq_true, if_false, bind_none2]
    rfl
theorem args_seq2 (r : List (List UInt8)) : argsP 2 r = seqT numP r fun x r1 => seqT readA r1 fun a r2 => endT ⟨2, 0, 0, x, [], 0, 0, false, a.1, a.2.1, a.2.2, 0, 0⟩ r2 := by
  rcases r with _ | ⟨p0, _ | ⟨p1, _ | ⟨q, t⟩⟩⟩
  · rfl
  · simp only [seqT_cons, seqT_nil, bind_none2]
    rfl
  · simp only [seqT_cons, endT, List.isEmpty_nil, if_true]
    simp only [argsP]
    repeat (first | rfl | (apply bind_congr2; intro))
    all_goals first | rfl | exact map_bind _ _
  · simp only [seqT_cons, endT, List.isEmpty_cons, Bool.false_eq_true, if_false, bind_none2]
    rfl
theorem args_seq3 (r : List (List UInt8)) : argsP 3 r = seqT numP r fun x r1 => endT ⟨3, 0, x, 0, [], 0, 0, false, false, 0, 0, 0, 0⟩ r1 := by
  rcases r with _ | ⟨p0, _ | ⟨q, t⟩⟩
  · rfl
  · simp only [seqT_cons, endT, List.isEmpty_nil, if_true]
    simp only [argsP]
    repeat (first | rfl | (apply bind_congr2; intro))
    all_goals first | rfl | exact map_bind _ _
  · simp only [seqT_cons, endT, List.isEmpty_cons, Bool.false_eq_true, if_false, bind_none2]
    rfl
theorem args_seq4 (r : List (List UInt8)) : argsP 4 r = seqT numP r fun x r1 => seqT onP r1 fun b r2 => endT ⟨4, 0, x, 0, [], 0, 0, b, false, 0, 0, 0, 0⟩ r2 := by
  rcases r with _ | ⟨p0, _ | ⟨p1, _ | ⟨q, t⟩⟩⟩
  · rfl
  · simp only [seqT_cons, seqT_nil, bind_none2]
    rfl
  · simp only [seqT_cons, endT, List.isEmpty_nil, if_true]
    simp only [argsP]
    repeat (first | rfl | (apply bind_congr2; intro))
    all_goals first | rfl | exact map_bind _ _
  · simp only [seqT_cons, endT, List.isEmpty_cons, Bool.false_eq_true, if_false, bind_none2]
    rfl
theorem args_seq5 (r : List (List UInt8)) : argsP 5 r = seqT numP r fun x r1 => seqT numP r1 fun y r2 => endT ⟨5, 0, x, y, [], 0, 0, false, false, 0, 0, 0, 0⟩ r2 := by
  rcases r with _ | ⟨p0, _ | ⟨p1, _ | ⟨q, t⟩⟩⟩
  · rfl
  · simp only [seqT_cons, seqT_nil, bind_none2]
    rfl
  · simp only [seqT_cons, endT, List.isEmpty_nil, if_true]
    simp only [argsP]
    repeat (first | rfl | (apply bind_congr2; intro))
    all_goals first | rfl | exact map_bind _ _
  · simp only [seqT_cons, endT, List.isEmpty_cons, Bool.false_eq_true, if_false, bind_none2]
    rfl
theorem args_seq6 (r : List (List UInt8)) : argsP 6 r = seqT numP r fun x r1 => seqT onP r1 fun b r2 => endT ⟨6, 0, x, 0, [], 0, 0, b, false, 0, 0, 0, 0⟩ r2 := by
  rcases r with _ | ⟨p0, _ | ⟨p1, _ | ⟨q, t⟩⟩⟩
  · rfl
  · simp only [seqT_cons, seqT_nil, bind_none2]
    rfl
  · simp only [seqT_cons, endT, List.isEmpty_nil, if_true]
    simp only [argsP]
    repeat (first | rfl | (apply bind_congr2; intro))
    all_goals first | rfl | exact map_bind _ _
  · simp only [seqT_cons, endT, List.isEmpty_cons, Bool.false_eq_true, if_false, bind_none2]
    rfl
theorem args_seq7 (r : List (List UInt8)) : argsP 7 r = seqT numP r fun x r1 => seqT numP r1 fun y r2 => endT ⟨7, 0, 0, 0, [], 0, 0, false, false, 0, 0, x, y⟩ r2 := by
  rcases r with _ | ⟨p0, _ | ⟨p1, _ | ⟨q, t⟩⟩⟩
  · rfl
  · simp only [seqT_cons, seqT_nil, bind_none2]
    rfl
  · simp only [seqT_cons, endT, List.isEmpty_nil, if_true]
    simp only [argsP]
    repeat (first | rfl | (apply bind_congr2; intro))
    all_goals first | rfl | exact map_bind _ _
  · simp only [seqT_cons, endT, List.isEmpty_cons, Bool.false_eq_true, if_false, bind_none2]
    rfl
theorem args_seq8 (r : List (List UInt8)) : argsP 8 r = seqT onP r fun b r1 => endT ⟨8, 0, 0, 0, [], 0, 0, b, false, 0, 0, 0, 0⟩ r1 := by
  rcases r with _ | ⟨p0, _ | ⟨q, t⟩⟩
  · rfl
  · simp only [seqT_cons, endT, List.isEmpty_nil, if_true]
    simp only [argsP]
    repeat (first | rfl | (apply bind_congr2; intro))
    all_goals first | rfl | exact map_bind _ _
  · simp only [seqT_cons, endT, List.isEmpty_cons, Bool.false_eq_true, if_false, bind_none2]
    rfl
theorem args_seq9 (r : List (List UInt8)) : argsP 9 r = seqT numP r fun x r1 => endT ⟨9, x, 0, 0, [], 0, 0, false, false, 0, 0, 0, 0⟩ r1 := by
  rcases r with _ | ⟨p0, _ | ⟨q, t⟩⟩
  · rfl
  · simp only [seqT_cons, endT, List.isEmpty_nil, if_true]
    simp only [argsP]
    repeat (first | rfl | (apply bind_congr2; intro))
    all_goals first | rfl | exact map_bind _ _
  · simp only [seqT_cons, endT, List.isEmpty_cons, Bool.false_eq_true, if_false, bind_none2]
    rfl
theorem args_seq10 (r : List (List UInt8)) : argsP 10 r = seqT numP r fun x r1 => endT ⟨10, x, 0, 0, [], 0, 0, false, false, 0, 0, 0, 0⟩ r1 := by
  rcases r with _ | ⟨p0, _ | ⟨q, t⟩⟩
  · rfl
  · simp only [seqT_cons, endT, List.isEmpty_nil, if_true]
    simp only [argsP]
    repeat (first | rfl | (apply bind_congr2; intro))
    all_goals first | rfl | exact map_bind _ _
  · simp only [seqT_cons, endT, List.isEmpty_cons, Bool.false_eq_true, if_false, bind_none2]
    rfl
theorem args_seq11 (r : List (List UInt8)) : argsP 11 r = seqT numP r fun x r1 => endT ⟨11, 0, 0, x, [], 0, 0, false, false, 0, 0, 0, 0⟩ r1 := by
  rcases r with _ | ⟨p0, _ | ⟨q, t⟩⟩
  · rfl
  · simp only [seqT_cons, endT, List.isEmpty_nil, if_true]
    simp only [argsP]
    repeat (first | rfl | (apply bind_congr2; intro))
    all_goals first | rfl | exact map_bind _ _
  · simp only [seqT_cons, endT, List.isEmpty_cons, Bool.false_eq_true, if_false, bind_none2]
    rfl
end Go.Proofs.YtodbgjnccngljaaDoor

namespace Go.Proofs.YtodbgjnccngljaaDoor
open Go Go.RowKit Go.Deep

abbrev actCs (x : ActL) : Array Value := #[.int .i64 x.k, .int .i64 x.at_, .int .i64 x.id, .int .i64 x.n, .string ⟨x.s.toArray⟩, .int .u64 ((x.a : Nat) : Int), .int .u64 ((x.b : Nat) : Int), .bool x.on, .bool x.v6, .int .u64 ((x.hi : Nat) : Int), .int .u64 ((x.lo : Nat) : Int), .int .i64 x.pk, .int .i64 x.ps]
def actE : Option ActL → Ending
  | some x => .returned (.agg (actCs x))
  | none => thrown
/-- Between reads: the cursor holds the words ws, the act's block cs, the result's block z. -/
structure AInv (W1 W : World) (g b2 b4 : Nat) (ws : List (List UInt8)) (cs z : Array Value) : Prop where
  k : Chg (· = g) W1 W
  c : Cur W g ws
  b : Blk W b4 65 cs
  r : Blk W b2 65 z
theorem take_sp {α : Type} {p : List UInt8 → Option α} {ws r : List (List UInt8)} {v : α} (h : takeP p ws = some (v, r)) (hs : ∀ x ∈ ws, (32 : UInt8) ∉ x) (hl : (restL ws).length ≤ 10000) : (∀ x ∈ r, (32 : UInt8) ∉ x) ∧ (restL r).length ≤ 10000 := by
  cases ws with
  | nil => cases h
  | cons x t =>
    obtain ⟨y, -, hy⟩ := Option.map_eq_some_iff.1 (show (p x).map (fun v => (v, t)) = some (v, r) from h)
    cases hy
    refine ⟨fun y hy => hs y (List.mem_cons_of_mem _ hy), ?_⟩
    refine Nat.le_trans ?_ hl
    unfold restL
    cases r with
    | nil => exact Nat.zero_le _
    | cons a t => rw [join_cons2]; simp; omega
theorem read_step {α : Type} {f : FuncId} {p : List UInt8 → Option α} {val : α → Value} (R : CReads f p val) {W1 W : World} {g b2 b4 : Nat} {ws : List (List UInt8)} {cs z : Array Value} (hI : AInv W1 W g b2 b4 ws cs z)
    (hS : ∀ w1, Chg (· = g) W1 w1 → Std w1) (h2 : ¬ b2 = g) (h4 : ¬ b4 = g) (hs : ∀ x ∈ ws, (32 : UInt8) ∉ x) (hl : (restL ws).length ≤ 10000) :
    Calls Tryd.prog f #[.pointer (some ⟨g, 0, none⟩)] W fun e w' => match takeP p ws with
      | some (v, r) => e = .returned (val v) ∧ AInv W1 w' g b2 b4 r cs z
      | none => e = thrown ∧ Chg (· = g) W1 w' := by
  refine (R g ws W (hS W hI.k) hI.c hs hl (fun w1 h => hS w1 (hI.k.trans h (fun _ _ h => h)))).mono ?_
  rintro e w' ⟨hk, hm⟩
  cases ht : takeP p ws with
  | none =>
    rw [ht] at hm
    exact ⟨hm, hI.k.trans hk (fun _ _ h => h)⟩
  | some y =>
    obtain ⟨v, r⟩ := y
    rw [ht] at hm
    exact ⟨hm.1, hI.k.trans hk (fun _ _ h => h), hm.2, hI.b.chg hk h4, hI.r.chg hk h2⟩
theorem read_no {α : Type} {f : FuncId} {p : List UInt8 → Option α} {val : α → Value} (R : CReads f p val) {W1 : World} {g b2 b4 : Nat} {ws : List (List UInt8)} {cs z : Array Value}
    (hS : ∀ w1, Chg (· = g) W1 w1 → Std w1) (h2 : ¬ b2 = g) (h4 : ¬ b4 = g) (hs : ∀ x ∈ ws, (32 : UInt8) ∉ x) (hl : (restL ws).length ≤ 10000) (ht : takeP p ws = none) (W : World) (hI : AInv W1 W g b2 b4 ws cs z) :
    Calls Tryd.prog f #[.pointer (some ⟨g, 0, none⟩)] W fun e w' => e = thrown ∧ Chg (· = g) W1 w' := by
  have := read_step R hI hS h2 h4 hs hl
  simp only [ht] at this
  exact this
theorem read_yes {α : Type} {f : FuncId} {p : List UInt8 → Option α} {val : α → Value} (R : CReads f p val) {W1 : World} {g b2 b4 : Nat} {ws r : List (List UInt8)} {v : α} {cs z : Array Value}
    (hS : ∀ w1, Chg (· = g) W1 w1 → Std w1) (h2 : ¬ b2 = g) (h4 : ¬ b4 = g) (hs : ∀ x ∈ ws, (32 : UInt8) ∉ x) (hl : (restL ws).length ≤ 10000) (ht : takeP p ws = some (v, r)) (W : World) (hI : AInv W1 W g b2 b4 ws cs z) :
    Calls Tryd.prog f #[.pointer (some ⟨g, 0, none⟩)] W fun e w' => e = .returned (val v) ∧ AInv W1 w' g b2 b4 r cs z := by
  have := read_step R hI hS h2 h4 hs hl
  simp only [ht] at this
  exact this
theorem Blk.setAt {w : World} {g : Nat} {t : TypeId} {cs : Array Value} (h : Blk w g t cs) (i : Nat) (v : Value) : Blk (w.setCell ⟨g, i, none⟩ v) g t (cs.setIfInBounds i v) := by
  unfold Blk at h ⊢
  simp [World.setCell, Array.getElem?_modify, h]
theorem Blk.setOff {w : World} {g b : Nat} {t : TypeId} {cs : Array Value} (h : Blk w g t cs) (hb : ¬ b = g) (i : Nat) (v : Value) : Blk (w.setCell ⟨b, i, none⟩ v) g t cs := by
  unfold Blk at h ⊢
  simp [World.setCell, Array.getElem?_modify, h, hb]
theorem AInv.set {W1 W : World} {g b2 b4 : Nat} {ws : List (List UInt8)} {cs z : Array Value} (h : AInv W1 W g b2 b4 ws cs z) (h4 : ¬ b4 = g) (h42 : ¬ b4 = b2) (hb : W1.heap.size ≤ b4) (i : Nat) (v : Value) :
    AInv W1 (W.setCell ⟨b4, i, none⟩ v) g b2 b4 ws (cs.setIfInBounds i v) z :=
  ⟨h.k.setCell (fun hh => absurd hh (by show ¬ b4 < W1.heap.size; omega)) _, Blk.setOff h.c h4 i v, h.b.setAt i v, h.r.setOff h42 i v⟩
theorem below_cur {w W1 W : World} {g : Nat} (hb : Below w.heap.size w W1) (hk : Chg (· = g) W1 W) (hg : w.heap.size ≤ g) : Below w.heap.size w W :=
  hb.trans (hk.below (fun b hb h => by omega) hb.size)
end Go.Proofs.YtodbgjnccngljaaDoor
