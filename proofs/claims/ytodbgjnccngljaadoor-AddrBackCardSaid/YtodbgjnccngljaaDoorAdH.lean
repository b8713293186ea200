/- addr: part, group. -/
import Derived.Test.YtodbgjnccngljaaDoorAdG
namespace Go.Proofs.YtodbgjnccngljaaDoor
open Go Go.RowKit Go.Deep

/-- What part and group tell. -/
def okV (o : Option (List UInt8)) : Value → Prop := fun v => match o with
  | some b => v = .tuple #[.string ⟨b.toArray⟩, .bool true]
  | none => ∃ x : ByteArray, v = .tuple #[.string x, .bool false]

set_option maxRecDepth 100000 in
set_option maxHeartbeats 4000000 in
theorem addr_group (l : List UInt8) (w : World) (hL : l.length ≤ 1000000) :
    Calls Tryd.prog 30 #[.string ⟨l.toArray⟩] w fun e w' => (∃ v, e = .returned v ∧ okV (grpL l) v) ∧ Below w.heap.size w w' := by
  have U := oct_unhex l w hL
  unfold unhexV at U
  unfold grpL
  cases hu : unhexL l with
  | none =>
    rw [hu] at U
    replace U := Lib.hid U
    replace hu := Lib.hid hu
    go_enter Tryd.func30, Tryd.ntmps30
    go_wp2_with (go_at_call 47; refine U.out.mono ?_; rintro e w2 ⟨rfl, hb2⟩)
    go_ret2
    exact ⟨⟨_, rfl, _, rfl⟩, hb2⟩
  | some b =>
    rw [hu] at U
    replace U := Lib.hid U
    have hbl := unhexL_len l b hu
    replace hu := Lib.hid hu
    have hsb : (ByteArray.mk b.toArray).size = b.length := rfl
    by_cases h2 : b.length = 2
    · simp only [h2, if_true]
      have e2 : ((b.length : Int) == 2) = true := by rw [h2]; rfl
      go_enter Tryd.func30, Tryd.ntmps30
      go_wp2_with (go_at_call 47; refine U.out.mono ?_; rintro e w2 ⟨rfl, hb2⟩)
      go_ret2
      exact ⟨⟨_, rfl, rfl⟩, hb2⟩
    · simp only [h2, if_false]
      have e2 : ((b.length : Int) == 2) = false := by rw [beq_eq_false_iff_ne]; omega
      go_enter Tryd.func30, Tryd.ntmps30
      go_wp2_with (go_at_call 47; refine U.out.mono ?_; rintro e w2 ⟨rfl, hb2⟩)
      go_ret2
      exact ⟨⟨_, rfl, _, rfl⟩, hb2⟩

theorem partN_bound : ∀ (l : List UInt8) (n m : Nat), partN l n = some m → n ≤ 2559 → m ≤ 2559
  | [], n, m, h, hn => by obtain rfl := Option.some.inj h; exact hn
  | c :: r, n, m, h, hn => by
    unfold partN at h
    split at h
    · cases h
    · rename_i hc
      exact partN_bound r _ m h (by omega)
theorem partN_drop (l : List UInt8) {j n : Nat} (h : j < l.length) : partN (l.drop j) n = if (l.getD j 0).toNat < 48 ∨ 57 < (l.getD j 0).toNat ∨ 255 < n then none else partN (l.drop (j + 1)) (10 * n + ((l.getD j 0).toNat - 48)) := by
  rw [List.drop_eq_getElem_cons h, partN, List.getD_eq_getElem?_getD, List.getElem?_eq_getElem h]
  rfl

set_option maxRecDepth 100000 in
set_option maxHeartbeats 4000000 in
theorem addr_part (l : List UInt8) (w : World) (hw : Std w) (hL : l.length ≤ 1000000) :
    Calls Tryd.prog 29 #[.string ⟨l.toArray⟩] w fun e w' => (∃ v, e = .returned v ∧ okV (partL l) v) ∧ Below w.heap.size w w' := by
  have cv := Lib.run_convert_string_bytes (P := Tryd.prog) w 9 54 5 ⟨l.toArray⟩ Tryd.underlying9 Tryd.underlying54 Tryd.underlying5
  have hbW := bytesWorld_below w 5 ⟨l.toArray⟩
  have hcell := Lib.bytesWorld_cell w 5 ⟨l.toArray⟩
  have hsz := Lib.bytesWorld_size w 5 ⟨l.toArray⟩
  rw [str_size] at hcell cv
  have hww := hw.below hbW
  generalize Lib.bytesWorld w 5 ⟨l.toArray⟩ = W at *
  obtain ⟨o, ho⟩ : ∃ o, partL l = o := ⟨_, rfl⟩
  obtain ⟨p, hp⟩ : ∃ p, partN l 0 = p := ⟨_, rfl⟩
  have hnone : p = none → o = none := fun h => by rw [← ho]; unfold partL; rw [hp, h]
  have hsome : ∀ m, p = some m → o = if m ≤ 255 ∧ dec3 m = l then some [UInt8.ofNat m] else none := fun m h => by rw [← ho]; unfold partL; rw [hp, h]
  rw [ho]
  replace hnone := Lib.hid hnone
  replace hsome := Lib.hid hsome
  clear ho
  go_enter Tryd.func29, Tryd.ntmps29
  go_wp2_with fail
  clear cv
  go_loopw [4, 10] (fun n i wr => ∃ (j m : Nat), j ≤ l.length ∧ i = .int .i64 (j : Nat) ∧ n = .int .i64 (m : Nat) ∧ m ≤ 2559 ∧ partN (l.drop j) m = p ∧ Below W.heap.size W wr) (fun _ i _ => l.length - (intOf i).toNat)
  case atStart => exact ⟨0, 0, by omega, rfl, rfl, by omega, by rw [List.drop_zero]; exact hp, Below.refl _ _⟩
  case round =>
    obtain ⟨j, m, hj, rfl, rfl, hm, hpj, hb⟩ := hrel
    by_cases hlt : j < l.length
    · have hlti : (j : Int) < (l.length : Int) := by omega
      have c0 : wr.cell? ⟨w.heap.size, j, none⟩ = some (.int .u8 (l.getD j 0).toNat) := (World.cell?_of_block (hb.block _ (show w.heap.size < W.heap.size by omega))).trans (hcell j hlt)
      have hcl : (l.getD j 0).toNat < 256 := (l.getD j 0).toNat_lt
      rw [partN_drop l hlt] at hpj
      obtain ⟨c, hcd⟩ : ∃ c, (l.getD j 0).toNat = c := ⟨_, rfl⟩
      rw [hcd] at c0 hpj hcl
      replace hcd := Lib.hid hcd
      clear hcell hp
      by_cases hc : c < 48 ∨ 57 < c ∨ 255 < m
      · rw [if_pos hc] at hpj
        have ho := hnone.out hpj.symm
        subst ho
        clear hpj
        rcases hc with h | h | h
        · have d1 : (c : Int) < 48 := by omega
          go_wp2_with fail
          go_ret2
          exact ⟨⟨_, rfl, _, rfl⟩, hbW.trans (hb.mono (by omega))⟩
        · have d1 : ¬ (c : Int) < 48 := by omega
          have d2 : (57 : Int) < (c : Int) := by omega
          go_wp2_with fail
          go_ret2
          exact ⟨⟨_, rfl, _, rfl⟩, hbW.trans (hb.mono (by omega))⟩
        · by_cases d1 : (c : Int) < 48
          · go_wp2_with fail
            go_ret2
            exact ⟨⟨_, rfl, _, rfl⟩, hbW.trans (hb.mono (by omega))⟩
          · by_cases d2 : (57 : Int) < (c : Int)
            · go_wp2_with fail
              go_ret2
              exact ⟨⟨_, rfl, _, rfl⟩, hbW.trans (hb.mono (by omega))⟩
            · have d3 : (255 : Int) < (m : Int) := by omega
              go_wp2_with fail
              go_ret2
              exact ⟨⟨_, rfl, _, rfl⟩, hbW.trans (hb.mono (by omega))⟩
      · rw [if_neg hc] at hpj
        have d1 : ¬ (c : Int) < 48 := by omega
        have d2 : ¬ (57 : Int) < (c : Int) := by omega
        have d3 : ¬ (255 : Int) < (m : Int) := by omega
        have hu : IntKind.u8.wrap ((c : Int) - 48) = ((c - 48 : Nat) : Int) := by rw [IntKind.wrap_u8]; omega
        have hm2 : 10 * m + (c - 48) ≤ 2559 := by omega
        obtain ⟨d, hd⟩ : ∃ d, c - 48 = d := ⟨_, rfl⟩
        rw [hd] at hu hpj hm2
        replace hpj := Lib.hid hpj
        replace hc := Lib.hid hc
        replace hd := Lib.hid hd
        go_wp2_with fail
        go_roundw
        case rel => exact ⟨j + 1, 10 * m + d, by omega, by go_num, by go_num, hm2, hpj.out, hb⟩
        case measure => simp [intOf]; omega
    · have hlti : ¬ (j : Int) < (l.length : Int) := by omega
      obtain rfl : j = l.length := by omega
      rw [List.drop_length, partN] at hpj
      have hwr := hww.below hb
      have P := oct_put m 1
      have I := std_itoa (m : Int)
      have hI : Lib.itoa (m : Int) = Lib.decDigits m := Lib.itoa_nonneg m
      rw [hI] at I
      have hb1 : octB m 1 = [UInt8.ofNat m] := by rw [octB_succ]; simp [octB]
      rw [hb1, show ((1 : Nat) : Int) = 1 from rfl] at P
      have ho := hsome.out m hpj.symm
      replace ho := Lib.hid ho
      have P2 := Lib.hid (fun W => P W (by omega) (by omega))
      have I2 := Lib.hid (fun W hW => I W hW (by omega) (by omega))
      have hbr : Below w.heap.size w wr := hbW.trans (hb.mono (by omega))
      have hu : IntKind.u64.wrap (m : Int) = (m : Int) := by rw [IntKind.wrap_u64]; omega
      clear P I hI hb1 hpj hp hcell hw hww hb hbW
      by_cases h5 : m ≤ 255
      · have d1 : (m : Int) ≤ 255 := by omega
        have he : Lib.decDigits m = dec3 m := dec3_eq (by omega)
        rw [he] at I2
        replace he := Lib.hid he
        have heq : (dec3 m == l) = decide (dec3 m = l) := by rw [Bool.eq_iff_iff]; simp
        obtain ⟨q, hq⟩ : ∃ q, decide (dec3 m = l) = q := ⟨_, rfl⟩
        obtain ⟨D, hD⟩ : ∃ D, dec3 m = D := ⟨_, rfl⟩
        rw [hD] at heq hq I2
        rw [hq] at heq
        replace hq := Lib.hid hq
        replace hD := Lib.hid hD
        replace hwr := Lib.hid hwr
        go_wp2_with (first
          | (go_at_call 35; (with_reducible refine (P2.out _).mono ?_); rintro e w2 ⟨rfl, hb2⟩; have hw2 := Lib.hid (hwr.out.below hb2))
          | (go_at_call 36; (with_reducible refine (I2.out _ hw2.out).mono ?_); rintro e w3 ⟨rfl, hb3⟩))
        go_ret2
        refine ⟨⟨_, rfl, ?_⟩, below_chain hb3 (below_chain hb2 hbr)⟩
        rw [ho.out, hD.out]
        by_cases hDl : D = l
        · rw [if_pos ⟨h5, hDl⟩]
          have : q = true := by rw [← hq.out]; simpa using hDl
          subst this
          rfl
        · rw [if_neg (fun h => hDl h.2)]
          have : q = false := by rw [← hq.out]; simpa using hDl
          subst this
          exact ⟨_, rfl⟩
      · have d1 : ¬ (m : Int) ≤ 255 := by omega
        go_wp2_with (first
          | (go_at_call 35; (with_reducible refine (P2.out _).mono ?_); rintro e w2 ⟨rfl, hb2⟩))
        go_ret2
        refine ⟨⟨_, rfl, ?_⟩, below_chain hb2 hbr⟩
        rw [ho.out, if_neg (by omega)]
        exact ⟨_, rfl⟩
end Go.Proofs.YtodbgjnccngljaaDoor
