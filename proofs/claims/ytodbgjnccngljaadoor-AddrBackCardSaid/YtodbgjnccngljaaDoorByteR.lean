/- Rows of bytes that a function appends to; a row of bytes as a text; the reference's octet: digit, value, Hex, Unhex. -/
import Derived.Test.YtodbgjnccngljaaDoorAdC
import Derived.Deep.RegionHeld3
import Derived.Laws.BytesArg
namespace Go.Proofs.YtodbgjnccngljaaDoor
open Go Go.RowKit Go.Deep
attribute [local go_sem] Oper.semAt_some

abbrev bc (c : UInt8) : List Value := [.int .u8 (c.toNat : Nat)]
abbrev OwnU (w : World) (base : Nat) (A : Option Addr) (c : Nat) (l : List UInt8) : Prop := OwnA bc 1 5 w base A c l
theorem info_byte : (Tryd.prog.info? 5).map (fun i => (i.zero, i.size, i.bytes)) = some (some (.int .u8 0), 1, 1) := by kernel_rfl
theorem bc_one (c : UInt8) : ∀ u ∈ bc c, u.oneCell' = true := by intro u hu; simp at hu; subst hu; rfl
theorem bc_flat (l : List UInt8) : l.flatMap bc = Lib.byteCells l := by
  induction l with
  | nil => rfl
  | cons c l ih => rw [List.flatMap_cons, ih]; rfl
section
variable {W : World} {ops : Array Oper} {o : Oper} {a : Act} {K : Act → World → Prop} {Q : Exit → Act → World → Prop} {E : Prop}
/-- Bytes behind others, in a region. -/
theorem step_push_u8 (hgd : o.guard = none) (s x : Operand)
    (ho : o.op = .call { callee := .builtin .append, args := #[s, x], argTypes := #[54, 54] })
    (base : Nat) (A : Option Addr) (c : Nat) (l : List UInt8) (n : Nat) (hn : l.length = n) (hs : a.eval s = .slice A n c) (hown : OwnU W base A c l) (g : Nat) (hg : g = W.heap.size) (x1 x2 : Int) (c1 c2 : UInt8) (h1 : x1 = c1.toNat) (h2 : x2 = c2.toNat)
    (hx : a.eval x = .slice (some ⟨g, 0, none⟩) 2 2) (hl : n ≤ 1000000000) (hbase : base ≤ W.heap.size)
    (h : ∀ A' c' w', OwnU w' base A' c' (l ++ [c1, c2]) → Pushed W w' A A' → K (a.put o.dst (.slice A' (n + 2) c')) w') :
    if Region.wanted o (yielded ops a.tmps) = true then Oper.wp Tryd.prog o a (W.alloc (.cells #[.int .u8 x1, .int .u8 x2] 5)) K Q else E := by
  subst hn hg h1 h2
  obtain ⟨i0, hi0, hz0, hz1, hz2⟩ := info_parts info_byte
  refine step_append_sl _ hgd s x 54 ho base 5 i0 _ 1 1 Tryd.underlying54 hi0 hz0 hz1 hz2 rfl (by decide) (.slice A l.length c) l.length (l.flatMap bc) hs (hown.alloc _) (W.heap.size + 1) (some ⟨W.heap.size, 0, none⟩) 2 2 [.int .u8 (c1.toNat : Nat), .int .u8 (c2.toNat : Nat)] hx
    (lits_read W _ 1 2 5 [.int .u8 (c1.toNat : Nat), .int .u8 (c2.toNat : Nat)] rfl (by omega)) (fun u hu => by simp at hu; rcases hu with rfl | rfl <;> rfl) (by unfold maxLen; omega) (by omega) (by simp; omega) ?_
  intro A' c' w' hown' hg' hat
  have hA : ∀ k, (Value.slice A l.length c).ownBlock = some k ↔ InB A k := hown.own_block
  have hO : OwnU w' base A' c' (l ++ [c1, c2]) := by
    unfold OwnU OwnA
    rw [List.length_append, List.flatMap_append]
    exact hown'
  refine h A' c' w' hO ⟨?_, ?_⟩
  · exact ((Chg.refl _ W).alloc _).grown hg' (fun k hk _ => (hA k).1 hk)
  · intro b hb
    have e1 : (Value.slice A' (l.length + 2) c').ownBlock = some b := by
      have := (hO.own_block b).2 hb
      simpa [Value.ownBlock] using this
    rcases hat with h2 | h2
    · rw [h2] at e1
      exact .inl ((hA b).1 e1)
    · rw [h2] at e1
      simp at e1
      exact .inr (by omega)
/-- One byte behind others, in a list of operations. -/
theorem wpList_push_u8 {rest : List Oper} (hgd : o.guard = none) (s x : Operand)
    (ho : o.op = .call { callee := .builtin .append, args := #[s, x], argTypes := #[54, 54] })
    (base : Nat) (A : Option Addr) (c : Nat) (l : List UInt8) (n : Nat) (hn : l.length = n) (hs : a.eval s = .slice A n c) (hown : OwnU W base A c l) (g : Nat) (hg : g = W.heap.size) (x1 : Int) (c1 : UInt8) (h1 : x1 = c1.toNat)
    (hx : a.eval x = .slice (some ⟨g, 0, none⟩) 1 1) (hl : n ≤ 1000000) (hbase : base ≤ W.heap.size)
    (h : ∀ A' c' w', OwnU w' base A' c' (l ++ [c1]) → Pushed W w' A A' → wpList Tryd.prog ops Q rest (a.put o.dst (.slice A' (n + 1) c')) w') : wpList Tryd.prog ops Q (o :: rest) a (W.alloc (.cells #[.int .u8 x1] 5)) := by
  obtain ⟨i0, hi0, hz0, hz1, hz2⟩ := info_parts info_byte
  exact wpList_push bc 1 (fun _ => rfl) bc_one (by omega) 54 i0 _ 1 Tryd.underlying54 hi0 hz0 hz1 hz2 rfl (by omega) hgd s x ho base A c l c1 n hn hs hown g hg (by subst h1; rfl) hx (by omega) hbase h
end
/-- A row of bytes as a text. -/
theorem conv_back {w : World} {base : Nat} {A : Option Addr} {c : Nat} {l : List UInt8} (h : OwnU w base A c l) :
    (convert 54 9 (.slice A l.length c)).run Tryd.prog w = .ok (.string ⟨l.toArray⟩) w := by
  cases A with
  | none =>
    have h0 : l = [] := by
      rcases h.2 with ⟨_, h0⟩ | ⟨g, cap, cur, hv, _⟩
      · exact List.length_eq_zero_iff.1 h0
      · cases hv
    subst h0
    exact run_convert_bytes_nil w 54 5 Tryd.underlying54 Tryd.underlying5 0 c 9 Tryd.underlying9
  | some ad =>
    refine run_convert_bytes_back (P := Tryd.prog) w 54 9 5 ad c l Tryd.underlying54 Tryd.underlying5 Tryd.underlying9 (fun j hj => ?_)
    obtain ⟨ad', he, _, hc⟩ := h.reads.2 (by omega)
    cases he
    refine hc j _ ?_
    rw [bc_flat]
    simp [Lib.byteCells, hj]

theorem ref_digit (n : Nat) (w : World) (h : n < 16) : Calls Tryd.prog 52 #[.int .i64 n] w fun e w' => e = .returned (.int .u8 ((hexd n).toNat : Nat)) ∧ w' = w := by
  have hx : ((hexd n).toNat : Int) = if n < 10 then 48 + (n : Int) else 87 + (n : Int) := by
    unfold hexd
    rw [UInt8.toNat_ofNat']
    split <;> omega
  rw [hx]
  by_cases h1 : n < 10
  · rw [if_pos h1]
    have g : (n : Int) < 10 := by omega
    have g2 : IntKind.u8.wrap (48 + (n : Int)) = 48 + (n : Int) := by rw [IntKind.wrap_u8]; omega
    clear hx
    go_enter Tryd.func52, Tryd.ntmps52
    go_wp2_with fail
    go_ret
    exact ⟨rfl, rfl⟩
  · rw [if_neg h1]
    have g : ¬ (n : Int) < 10 := by omega
    have g2 : IntKind.u8.wrap (97 + (n : Int) - 10) = 87 + (n : Int) := by rw [IntKind.wrap_u8]; omega
    clear hx
    go_enter Tryd.func52, Tryd.ntmps52
    go_wp2_with fail
    go_ret
    exact ⟨by simp, rfl⟩

def hexN (c : UInt8) : Int := match hexv c with | some n => (n : Int) | none => -1
theorem hexN_some {c : UInt8} {k : Nat} (hk : k < 16) (h : hexd k = c) : hexN c = (k : Int) := by
  unfold hexN; rw [← h, hexv_hexd hk]
theorem hexN_none {c : UInt8} (h : ∀ j, j < 16 → hexd j ≠ c) : hexN c = -1 := by
  unfold hexN
  cases hv : hexv c with
  | none => rfl
  | some n =>
    obtain ⟨h1, h2⟩ := hexd_hexv hv
    exact absurd h1 (h n h2)
set_option maxRecDepth 100000 in
set_option maxHeartbeats 2000000 in
theorem ref_value (c : UInt8) (w : World) : Calls Tryd.prog 48 #[.int .u8 (c.toNat : Nat)] w fun e w' => e = .returned (.int .i64 (hexN c)) ∧ w' = w := by
  go_enter Tryd.func48, Tryd.ntmps48
  go_wp2_with fail
  go_loopw [3] (fun i wr => ∃ k : Nat, k ≤ 16 ∧ i = .int .i64 (k : Nat) ∧ (∀ j, j < k → hexd j ≠ c) ∧ wr = w) (fun i _ => 16 - (intOf i).toNat)
  case atStart => exact ⟨0, by omega, rfl, fun j hj => by omega, rfl⟩
  case round =>
    obtain ⟨k, hk, rfl, hno, rfl⟩ := hrel
    by_cases hlt : k < 16
    · have hlti : (k : Int) < 16 := by omega
      have D := Lib.hid (ref_digit k wr hlt)
      by_cases he : hexd k = c
      · have hb : (((hexd k).toNat : Int) == (c.toNat : Int)) = true := by rw [he]; simp
        have hN := hexN_some hlt he
        replace he := Lib.hid he
        replace hno := Lib.hid hno
        go_wp2_with (go_at_call 52; refine D.out.mono ?_; rintro e w5 ⟨rfl, rfl⟩)
        go_ret
        exact ⟨by rw [hN]; rfl, rfl⟩
      · have hb : (((hexd k).toNat : Int) == (c.toNat : Int)) = false := by
          rw [beq_eq_false_iff_ne]
          intro e
          exact he (UInt8.toNat_inj.1 (by omega))
        have hno2 : ∀ j, j < k + 1 → hexd j ≠ c := fun j hj => by
          by_cases e : j = k
          · subst e; exact he
          · exact hno j (by omega)
        replace he := Lib.hid he
        replace hno := Lib.hid hno
        replace hno2 := Lib.hid hno2
        go_wp2_with (go_at_call 52; refine D.out.mono ?_; rintro e w5 ⟨rfl, rfl⟩)
        go_roundw
        case rel => exact ⟨k + 1, by omega, by go_num, hno2.out, trivial⟩
        case measure => simp [intOf]; omega
    · have hlti : ¬ (k : Int) < 16 := by omega
      obtain rfl : k = 16 := by omega
      have hN := hexN_none hno
      replace hno := Lib.hid hno
      go_wp2_with fail
      go_ret
      exact ⟨by first | rfl | (rw [hN]; rfl), rfl⟩

set_option maxRecDepth 100000 in
set_option maxHeartbeats 4000000 in
theorem ref_hex (l : List UInt8) (w : World) (hL : l.length ≤ 100000000) :
    Calls Tryd.prog 40 #[.string ⟨l.toArray⟩] w fun e w' => e = .returned (.string ⟨(hexL l).toArray⟩) ∧ Below w.heap.size w w' := by
  go_enter Tryd.func40, Tryd.ntmps40
  go_wp2_with fail
  go_loopw [3, 4] (fun s i wr => ∃ (j : Nat) (A : Option Addr) (cp : Nat), j ≤ l.length ∧ i = .int .i64 (j : Nat) ∧ s = .slice A (2 * j) cp ∧ OwnU wr w.heap.size A cp (hexL (l.take j)) ∧ Below w.heap.size w wr) (fun _ i _ => l.length - (intOf i).toNat)
  case atStart => exact ⟨0, none, 0, by omega, rfl, rfl, OwnA.nil _ _, Below.refl _ _⟩
  case round =>
    obtain ⟨j, A, cp, hj, rfl, rfl, hO, hb⟩ := hrel
    by_cases hlt : j < l.length
    · have hlti : (j : Int) < (l.length : Int) := by omega
      have hi0 := fun W => idx_str l j W hlt
      have hs : hexL (l.take (j + 1)) = hexL (l.take j) ++ [hexd ((l.getD j 0).toNat / 16), hexd ((l.getD j 0).toNat % 16)] := by
        rw [List.take_add_one, List.getElem?_eq_getElem hlt]
        unfold hexL
        rw [List.flatMap_append, List.getD_eq_getElem?_getD, List.getElem?_eq_getElem hlt]
        simp
      have hl0 : (hexL (l.take j)).length = 2 * j := by rw [hexL_len, List.length_take, Nat.min_eq_left hj]
      have hcl : (l.getD j 0).toNat < 256 := (l.getD j 0).toNat_lt
      obtain ⟨c, hcd⟩ : ∃ c, (l.getD j 0).toNat = c := ⟨_, rfl⟩
      obtain ⟨p, hpd⟩ : ∃ p, hexL (l.take j) = p := ⟨_, rfl⟩
      rw [hcd] at hi0 hs hcl
      rw [hpd] at hs hl0 hO
      obtain ⟨q, hq⟩ : ∃ q, c / 16 = q := ⟨_, rfl⟩
      obtain ⟨r, hr⟩ : ∃ r, c % 16 = r := ⟨_, rfl⟩
      have hq16 : q < 16 := by omega
      have hr16 : r < 16 := by omega
      have t1 : IntKind.i64.wrap (c : Int) = (c : Int) := by rw [IntKind.wrap_i64]; omega
      have t2 : (c : Int).tdiv 16 = (q : Int) := by rw [← hq]; simp [Int.tdiv]
      have t3 : (c : Int).tmod 16 = (r : Int) := by rw [← hr]; simp [Int.tmod]
      have t4 : IntKind.i64.wrap (q : Int) = (q : Int) := by rw [IntKind.wrap_i64]; omega
      have t5 : IntKind.i64.wrap (r : Int) = (r : Int) := by rw [IntKind.wrap_i64]; omega
      rw [hq, hr] at hs
      have D1 := Lib.hid (fun W => ref_digit q W hq16)
      have D2 := Lib.hid (fun W => ref_digit r W hr16)
      replace hs := Lib.hid hs
      replace hcd := Lib.hid hcd
      replace hpd := Lib.hid hpd
      replace hq := Lib.hid hq
      replace hr := Lib.hid hr
      replace hO := Lib.hid hO
      replace hl0 := Lib.hid hl0
      have hsz := hb.size
      go_wp2_with fail
      have hbd : Below w.heap.size w wr.drew := hb.drew
      go_region_held3 (fun W => Below w.heap.size w W) ((first | assumption | exact below_alloc (by assumption) _)) (first
        | (go_at_call 52; (first | (with_reducible refine (D1.out _).mono ?_) | (with_reducible refine (D2.out _).mono ?_)); rintro e w5 ⟨rfl, rfl⟩)
        | (refine step_push_u8 rfl (.tmp 11) (.tmp 24) rfl w.heap.size A cp p _ hl0.out rfl hO.out.drew _ rfl _ _ (hexd q) (hexd r) rfl rfl rfl (by omega) hsz ?_; intro A2 p2 w7 ho7 hp7; have hS7 := hp7.below (w0 := w) (B := w.heap.size) hbd hsz (fun b hb => (hO.out.block hb).1)))
      all_goals
        rw [← hs.out] at ho7
        replace ho7 := Lib.hid ho7
        go_wp2_with fail
        go_roundw
        case rel => exact ⟨j + 1, A2, p2, by omega, by go_num, rfl, ho7.out, hS7⟩
        case measure => simp [intOf]; omega
    · have hlti : ¬ (j : Int) < (l.length : Int) := by omega
      obtain rfl : j = l.length := by omega
      rw [List.take_length] at hO
      have cvb := conv_back hO
      rw [hexL_len] at cvb
      replace hO := Lib.hid hO
      go_wp2_with fail
      go_ret
      exact ⟨rfl, hb⟩
end Go.Proofs.YtodbgjnccngljaaDoor
