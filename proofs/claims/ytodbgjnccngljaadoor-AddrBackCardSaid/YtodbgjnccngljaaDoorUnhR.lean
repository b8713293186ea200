/- The reference's Unhex. -/
import Derived.Test.YtodbgjnccngljaaDoorByteR
namespace Go.Proofs.YtodbgjnccngljaaDoor
open Go Go.RowKit Go.Deep
attribute [local go_sem] Oper.semAt_some

theorem unhexL_append : ∀ (n : Nat) (a b : List UInt8), a.length = 2 * n → unhexL (a ++ b) = (unhexL a).bind fun x => (unhexL b).map (x ++ ·)
  | 0, a, b, h => by
    obtain rfl : a = [] := List.length_eq_zero_iff.1 (by omega)
    show unhexL b = (some []).bind fun x => (unhexL b).map (x ++ ·)
    cases unhexL b <;> simp
  | n + 1, a, b, h => by
    match a, h with
    | x :: y :: r, h =>
      have ih := unhexL_append n r b (by simp at h; omega)
      rw [List.cons_append, List.cons_append, unhexL, unhexL, ih]
      cases hexv x <;> cases hexv y <;> cases unhexL r <;> cases unhexL b <;> simp
theorem unhexL_odd {l : List UInt8} (h : l.length % 2 = 1) : unhexL l = none := by
  cases hu : unhexL l with
  | none => rfl
  | some b => have := unhexL_len l b hu; omega
theorem unhexL_bad {l : List UInt8} {i : Nat} (h : i < l.length) (hv : hexv (l.getD i 0) = none) : unhexL l = none := by
  cases hu : unhexL l with
  | none => rfl
  | some b =>
    have e := hex_unhex l b hu
    have hm : l.getD i 0 ∈ hexL b := by rw [e, List.getD_eq_getElem?_getD, List.getElem?_eq_getElem h]; simp
    have := hexL_isHex b _ hm
    unfold isHex at this
    unfold hexv at hv
    split at hv
    · cases hv
    · split at hv
      · cases hv
      · omega
theorem unhexL_step {l : List UInt8} {m a b : Nat} {p : List UInt8} (h : 2 * m + 1 < l.length) (hp : unhexL (l.take (2 * m)) = some p) (ha : hexv (l.getD (2 * m) 0) = some a) (hb : hexv (l.getD (2 * m + 1) 0) = some b) :
    unhexL (l.take (2 * (m + 1))) = some (p ++ [UInt8.ofNat (16 * a + b)]) := by
  have e : l.take (2 * (m + 1)) = l.take (2 * m) ++ [l.getD (2 * m) 0, l.getD (2 * m + 1) 0] := by
    rw [show 2 * (m + 1) = 2 * m + 1 + 1 by omega, List.take_add_one, List.take_add_one]
    rw [List.getD_eq_getElem?_getD, List.getD_eq_getElem?_getD, List.getElem?_eq_getElem (show 2 * m < l.length by omega), List.getElem?_eq_getElem h]
    simp only [Option.toList_some, List.append_assoc, List.singleton_append, Option.getD_some]
  rw [e, unhexL_append m _ _ (by rw [List.length_take]; omega), hp]
  have e2 : unhexL [l.getD (2 * m) 0, l.getD (2 * m + 1) 0] = some [UInt8.ofNat (16 * a + b)] := by
    rw [unhexL, ha, hb]; rfl
  rw [e2]; rfl
/-- What Unhex tells. -/
def unhexV (l : List UInt8) : Value := match unhexL l with
  | some b => .tuple #[.string ⟨b.toArray⟩, .bool true]
  | none => .tuple #[.string ⟨#[]⟩, .bool false]
theorem hexN_of {c : UInt8} : (hexv c = none ∧ hexN c = -1) ∨ ∃ n, n < 16 ∧ hexv c = some n ∧ hexN c = (n : Int) := by
  unfold hexN
  cases h : hexv c with
  | none => exact Or.inl ⟨rfl, rfl⟩
  | some n => exact Or.inr ⟨n, (hexd_hexv h).2, rfl, rfl⟩

set_option maxRecDepth 100000 in
set_option maxHeartbeats 4000000 in
theorem ref_unhex (l : List UInt8) (w : World) (hL : l.length ≤ 1000000) :
    Calls Tryd.prog 34 #[.string ⟨l.toArray⟩] w fun e w' => e = .returned (unhexV l) ∧ Below w.heap.size w w' := by
  go_enter Tryd.func34, Tryd.ntmps34
  go_wp2_with fail
  go_loopw [4, 5] (fun s i wr => ∃ (m : Nat) (A : Option Addr) (cp : Nat) (p : List UInt8), 2 * m ≤ l.length ∧ i = .int .i64 ((2 * m : Nat) : Int) ∧ s = .slice A m cp ∧ p.length = m ∧ unhexL (l.take (2 * m)) = some p ∧ OwnU wr w.heap.size A cp p ∧ Below w.heap.size w wr) (fun _ i _ => l.length - (intOf i).toNat)
  case atStart => exact ⟨0, none, 0, [], by omega, rfl, rfl, rfl, rfl, OwnA.nil _ _, Below.refl _ _⟩
  case round =>
    obtain ⟨m, A, cp, p, hm, rfl, rfl, hpl, hp, hO, hb⟩ := hrel
    by_cases hlt : 2 * m + 1 < l.length
    · have hlti : ((2 * m : Nat) : Int) + 1 < (l.length : Int) := by omega
      have hi0 := fun W => idx_str l (2 * m) W (by omega)
      have hi1 := fun W => idx_str l (2 * m + 1) W hlt
      have U := fun a b => unhexL_step (a := a) (b := b) hlt hp
      have B0 := unhexL_bad (l := l) (i := 2 * m) (by omega)
      have B1 := unhexL_bad (l := l) (i := 2 * m + 1) hlt
      rw [show ((2 * m + 1 : Nat) : Int) = ((2 * m : Nat) : Int) + 1 by omega] at hi1
      obtain ⟨c0, hc0⟩ : ∃ c, l.getD (2 * m) 0 = c := ⟨_, rfl⟩
      obtain ⟨c1, hc1⟩ : ∃ c, l.getD (2 * m + 1) 0 = c := ⟨_, rfl⟩
      rw [hc0] at hi0 U B0
      rw [hc1] at hi1 U B1
      have D0 := Lib.hid (fun W => ref_value c0 W)
      have D1 := Lib.hid (fun W => ref_value c1 W)
      obtain ⟨n0, hn0⟩ : ∃ n, hexN c0 = n := ⟨_, rfl⟩
      obtain ⟨n1, hn1⟩ : ∃ n, hexN c1 = n := ⟨_, rfl⟩
      rw [hn0] at D0
      rw [hn1] at D1
      have V0 := hexN_of (c := c0)
      have V1 := hexN_of (c := c1)
      rw [hn0] at V0
      rw [hn1] at V1
      obtain ⟨ii, hii⟩ : ∃ ii, ((2 * m : Nat) : Int) = ii := ⟨_, rfl⟩
      rw [hii] at hi0 hi1 hlti ⊢
      replace hii := Lib.hid hii
      replace U := Lib.hid U
      replace B0 := Lib.hid B0
      replace B1 := Lib.hid B1
      replace V0 := Lib.hid V0
      replace V1 := Lib.hid V1
      replace hc0 := Lib.hid hc0
      replace hc1 := Lib.hid hc1
      replace hn0 := Lib.hid hn0
      replace hn1 := Lib.hid hn1
      replace hp := Lib.hid hp
      replace hO := Lib.hid hO
      have hsz := hb.size
      have hx0 : 0 ≤ ii := by have := hii.out; omega
      have hx1 : ii + 1 < 9000000000 := by have := hii.out; omega
      have hwr : IntKind.i64.wrap (ii + 1) = ii + 1 := by rw [IntKind.wrap_i64]; omega
      go_wp2_with fail
      go_region_held3 (fun W => Below wr.heap.size wr W) ((first | assumption | exact (Below.refl _ _).drew | exact Below.refl _ _)) (first
        | (go_at_call 48; (first | (with_reducible refine (D0.out _).mono ?_) | (with_reducible refine (D1.out _).mono ?_)); rintro e w5 ⟨rfl, rfl⟩))
      all_goals
        by_cases h0 : n0 < 0
        · have z : unhexL l = none := by
            rcases V0.out with ⟨v, _⟩ | ⟨n, _, _, e⟩
            · exact B0.out v
            · omega
          replace z := Lib.hid z
          go_wp2_with fail
          go_ret2
          exact ⟨by unfold unhexV; rw [z.out]; rfl, hb.drew⟩
        · by_cases h1 : n1 < 0
          · have z : unhexL l = none := by
              rcases V1.out with ⟨v, _⟩ | ⟨n, _, _, e⟩
              · exact B1.out v
              · omega
            replace z := Lib.hid z
            go_wp2_with fail
            go_ret2
            exact ⟨by unfold unhexV; rw [z.out]; rfl, hb.drew⟩
          · obtain ⟨a, ha, va, rfl⟩ : ∃ n, n < 16 ∧ hexv c0 = some n ∧ n0 = (n : Int) := by
              rcases V0.out with ⟨_, e⟩ | h
              · omega
              · exact h
            obtain ⟨b, hb16, vb, rfl⟩ : ∃ n, n < 16 ∧ hexv c1 = some n ∧ n1 = (n : Int) := by
              rcases V1.out with ⟨_, e⟩ | h
              · omega
              · exact h
            have hU := Lib.hid (U.out a b va vb)
            have hu8 : IntKind.u8.wrap (16 * (a : Int) + (b : Int)) = ((UInt8.ofNat (16 * a + b)).toNat : Int) := by
              rw [IntKind.wrap_u8, UInt8.toNat_ofNat']; omega
            generalize UInt8.ofNat (16 * a + b) = cc at *
            clear h0 h1 hi0 hi1
            replace va := Lib.hid va
            replace vb := Lib.hid vb
            have h0 : ¬ (a : Int) < 0 := by omega
            have h1 : ¬ (b : Int) < 0 := by omega
            replace hpl := Lib.hid hpl
            have hbd : Below w.heap.size w wr.drew := hb.drew
            go_wp2_with (at_builtin; refine wpList_push_u8 rfl (.tmp 30) (.tmp 36) rfl w.heap.size A cp p _ hpl.out rfl hO.out.drew _ rfl _ cc rfl rfl (by omega) hsz ?_; intro A2 p2 w7 ho7 hp7)
            have hS7 := hp7.below (w0 := w) (B := w.heap.size) hbd hsz (fun b hb => (hO.out.block hb).1)
            replace ho7 := Lib.hid ho7
            go_wp2_with fail
            go_roundw
            case rel => exact ⟨m + 1, A2, p2, p ++ [cc], by omega, by rw [← hii.out]; go_num, rfl, by simp [hpl.out], hU.out, ho7.out, hS7⟩
            case measure => simp [intOf]; omega
    · have hlti : ¬ ((2 * m : Nat) : Int) + 1 < (l.length : Int) := by omega
      obtain ⟨ii, hii⟩ : ∃ ii, ((2 * m : Nat) : Int) = ii := ⟨_, rfl⟩
      rw [hii] at hlti ⊢
      replace hii := Lib.hid hii
      have hx0 : 0 ≤ ii := by have := hii.out; omega
      have hx1 : ii + 1 < 9000000000 := by have := hii.out; omega
      have ht : (l.length : Int).tmod 2 = ((l.length % 2 : Nat) : Int) := by simp [Int.tmod]
      by_cases ho : l.length % 2 = 1
      · rw [ho] at ht
        have z := Lib.hid (unhexL_odd ho)
        replace hp := Lib.hid hp
        go_wp2_with fail
        go_ret2
        exact ⟨by unfold unhexV; rw [z.out]; rfl, hb⟩
      · rw [show l.length % 2 = 0 by omega] at ht
        rw [List.take_of_length_le (by omega)] at hp
        have cvb := conv_back hO
        rw [hpl] at cvb
        replace hp := Lib.hid hp
        replace hO := Lib.hid hO
        go_wp2_with fail
        go_ret2
        exact ⟨by unfold unhexV; rw [hp.out]; rfl, hb⟩
end Go.Proofs.YtodbgjnccngljaaDoor
