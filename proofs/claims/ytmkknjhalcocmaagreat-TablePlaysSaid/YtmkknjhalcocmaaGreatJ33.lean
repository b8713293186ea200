/- table: the document's Drop. -/
import Derived.Test.YtmkknjhalcocmaaGreatJ32
namespace Go.Proofs.YtmkknjhalcocmaaGreat
open Go Go.RowKit Go.Deep Go.Maps Go.ChangeMaps

theorem dropS_goAll (n : Nat) (s : TSt) (L : List Nat) : dropS n s L = goAll n s (L.map fun k : Nat => (k : Int)) := by
  unfold dropS goAll
  rw [List.foldl_map]
  rfl
theorem entsOf_filter (E : Nat → Slt) (P : Slt → Bool) : ∀ n : Nat, entsOf E (allL E P n) = (liveE E n).filter P
  | 0 => rfl
  | n + 1 => by
    have ih := entsOf_filter E P n
    rw [allL_succ, liveE_succ]
    cases hu : (E n).used
    · simpa using ih
    · cases hp : P (E n)
      · simp [hp, ih]
      · simp [hp, entsOf]
        unfold entsOf at ih
        exact ih
section
variable {w w' w1 w2 : World} {g n : Nat} {b : Int} {c : TCfg} {d : DTs} {s : TSt} {X X1 X2 F : Nat → Prop}
set_option maxRecDepth 100000 in
set_option maxHeartbeats 16000000 in
theorem ddtab_drop (h : DTabP w g n b c (dOf n s) X) (hti : TI n s) (bk : Int) :
    Calls Tryz.prog 30 #[.pointer (some ⟨g, 0, none⟩), .int .i64 bk] w fun e w' => ∃ (A : Option Addr) (q : Nat), e = .returned (.slice A (entsOf s.E (allL s.E (fun x => x.bk == bk) n)).length q) ∧ OwnE w' w.heap.size A q (entsOf s.E (allL s.E (fun x => x.bk == bk) n)) ∧ DTo w w' g n b c (dOf n (dropS n s (allL s.E (fun x => x.bk == bk) n))) X := by
  have hn := h.n4096
  obtain ⟨_, _, _, A, q, -, -, c7, -, -, -, hO, -, -, -⟩ := h.cells
  dsimp only [dOf] at c7 hO
  have hM := hti.mlen5 hn
  have hLl : s.L.length ≤ n := by have := live_free hti; omega
  have hln := liveE_len s.E n
  have hEF := entsOf_filter s.E (fun x => x.bk == bk) n
  have hPl := allL_len s.E (fun x => x.bk == bk) n
  have hPk : ∀ k ∈ allL s.E (fun x => x.bk == bk) n, k < n := fun k hk => allL_lt hk
  obtain ⟨Ls, hLs⟩ : ∃ L, allL s.E (fun x => x.bk == bk) n = L := ⟨_, rfl⟩
  obtain ⟨LL, hLL⟩ : ∃ L, liveE s.E n = L := ⟨_, rfl⟩
  rw [hLs, hLL] at hEF
  rw [hLs] at hPl hPk ⊢
  rw [hLL] at c7 hO hln
  have hlt0 := block_lt_of_cell c7
  have FZ := Lib.hid fun W (hW : Below w.heap.size w W) => (hW.cell hlt0).trans c7
  have hsl := hti.sl
  clear hLs hLL c7 hti
  replace hO := Lib.hid hO
  replace hEF := Lib.hid hEF
  replace hPk := Lib.hid hPk
  replace hsl := Lib.hid hsl
  replace h := Lib.hid h
  go_enter Tryz.func30, Tryz.ntmps30
  go_wp2_with fail
  go_loopw [5, 6] (fun ov iv wr => ∃ (k : Nat) (out : List Slt) (A' : Option Addr) (q' : Nat), k ≤ LL.length ∧ out = (LL.take k).filter (fun x => x.bk == bk) ∧ iv = .int .i64 (k : Nat) ∧ ov = .slice A' out.length q' ∧ OwnE wr w.heap.size A' q' out ∧ Below w.heap.size w wr) (fun _ iv _ => LL.length - (intOf iv).toNat)
  case atStart => exact ⟨0, [], none, 0, by omega, rfl, rfl, rfl, OwnA.nil _ _, Below.refl _ _⟩
  case round =>
    obtain ⟨k, out, A', q', hk, hout, rfl, rfl, hT, hb⟩ := hrel
    have hz := hb.size
    have c7 := FZ.out wr hb
    have hol : out.length ≤ 4096 := by
      rw [hout]
      refine Nat.le_trans (List.length_filter_le _ _) ?_
      rw [List.length_take]
      omega
    by_cases hlt : k < LL.length
    · have hlti : (k : Int) < (LL.length : Int) := by omega
      obtain ⟨ad, rfl, hbl, hc⟩ := (hO.out.call hb).reads.rec_at Slt.ent (fun _ => rfl) hlt
      have c9 : wr.cell? ⟨(ad.add (k * 14)).block, (ad.add (k * 14)).off + 9, none⟩ = some (.int .i64 LL[k].bk) := hc 9 _ rfl
      have hst : (LL.take (k + 1)).filter (fun x => x.bk == bk) = if LL[k].bk = bk then out ++ [LL[k]] else out := by
        rw [List.take_succ_eq_append_getElem hlt, List.filter_append, ← hout]
        by_cases e : LL[k].bk = bk
        · rw [if_pos e, List.filter_cons_of_pos (by simpa using e)]
          rfl
        · rw [if_neg e, List.filter_cons_of_neg (by simpa using e)]
          simp
      obtain ⟨y, hy⟩ : ∃ y, LL[k] = y := ⟨_, rfl⟩
      rw [hy] at c9 hst hc
      clear hy
      replace hc := Lib.hid hc
      replace hT := Lib.hid hT
      obtain ⟨m, hm⟩ : ∃ m, out.length = m := ⟨_, rfl⟩
      rw [hm] at hol
      try rw [hm]
      replace hm := Lib.hid hm
      replace hout := Lib.hid hout
      by_cases e : y.bk = bk
      · have hne : (y.bk == bk) = true := by simpa using e
        rw [if_pos e] at hst
        replace hst := Lib.hid hst
        clear e
        go_wp2_with (first
          | (refine wpList_load_entR rfl (.tmp 33) rfl (ad.add (k * 14)) rfl y hc.out ?_)
          | (at_builtin; refine wpList_push_ent rfl (.tmp 27) (.tmp 35) rfl w.heap.size A' q' out y m hm.out rfl hT.out _ rfl rfl rfl (by have := hm.out; omega) (by omega) ?_; intro A4 a4 w4 hO4 hp4))
        have hb4 := hp4.below hb (by omega) (fun z hz => (hT.out.block hz).1)
        have hml : (out ++ [y]).length = m + 1 := by rw [List.length_append, hm.out]; rfl
        replace hml := Lib.hid hml
        go_roundw
        case rel => exact ⟨k + 1, out ++ [y], A4, a4, by omega, hst.out.symm, by go_num, by rw [hml.out], hO4, hb4⟩
        case measure => simp [intOf]; omega
      · have hne : (y.bk == bk) = false := by simpa using e
        rw [if_neg e] at hst
        replace hst := Lib.hid hst
        clear e
        go_wp2_with fail
        go_roundw
        case rel => exact ⟨k + 1, out, A', q', by omega, hst.out.symm, by go_num, by rw [hm.out], hT.out, hb⟩
        case measure => simp [intOf]; omega
    · obtain rfl : k = LL.length := by omega
      have hlti : ¬ ((LL.length : Nat) : Int) < (LL.length : Int) := by omega
      rw [List.take_length, ← hEF.out] at hout
      have h1 := h.out.call hb
      have hol2 : out.length = Ls.length := by rw [hout]; unfold entsOf; rw [List.length_map]
      have hAX : ∀ y, InB A' y → ¬ X y := fun y hy hx => by
        have := (hT.block hy).1
        have := h.out.lt hx
        omega
      rw [hol2]
      subst hout
      have hel : (entsOf s.E Ls).length = Ls.length := by unfold entsOf; rw [List.length_map]
      replace hT := Lib.hid hT
      replace h1 := Lib.hid h1
      replace hAX := Lib.hid hAX
      replace hel := Lib.hid hel
      clear hO FZ hol hol2 hk
      obtain ⟨wo, rfl⟩ : ∃ wo, wo = wr := ⟨wr, rfl⟩
      have hX0 : XTo w wo X X := XTo.call hb
      replace hX0 := Lib.hid hX0
      clear hb
      go_wp2_with fail
      go_loopw [7] (fun iv wx => ∃ (j : Nat) (Xj : Nat → Prop), j ≤ Ls.length ∧ iv = .int .i64 (j : Nat) ∧ DTabP wx g n b c (dOf n (dropS n s (Ls.take j))) Xj ∧ XTo w wx X Xj ∧ OwnE wx w.heap.size A' q' (entsOf s.E Ls) ∧ (∀ y, InB A' y → ¬ Xj y)) (fun iv _ => Ls.length - (intOf iv).toNat)
      case atStart => exact ⟨0, X, by omega, rfl, h1.out, hX0.out, hT.out, hAX.out⟩
      case round =>
        clear h1 hX0 hT hAX c7 hlti
        obtain ⟨j, Xj, hj, rfl, hD, hX, hO, hAX⟩ := hrel
        by_cases hlt : j < Ls.length
        · have hlti : (j : Int) < (Ls.length : Int) := by omega
          have hj0 : (0 : Int) ≤ (j : Int) := by omega
          have hje : j < (entsOf s.E Ls).length := by rw [hel.out]; exact hlt
          obtain ⟨ad, rfl, hbl, hc⟩ := hO.reads.rec_at Slt.ent (fun _ => rfl) hje
          have hkx := hPk.out Ls[j] (List.getElem_mem hlt)
          have hee : (entsOf s.E Ls)[j] = s.E Ls[j] := List.getElem_map ..
          have c11 : wr.cell? ⟨(ad.add (j * 14)).block, (ad.add (j * 14)).off + 11, none⟩ = some (.int .i64 (entsOf s.E Ls)[j].sl) := hc 11 _ rfl
          rw [hee, hsl.out _ hkx] at c11
          have hdt := dropS_take n s hlt
          have hga := dropS_goAll n s (Ls.take j)
          have hslk : ∀ q : Nat, q < n → ((dropS n s (Ls.take j)).E q).sl = q := by rw [hga]; exact goAll_sl _ s hsl.out
          have hLk : (dropS n s (Ls.take j)).L.length ≤ 1000000 := by
            rw [hga]
            have h5 := goAll_Llen (n := n) ((Ls.take j).map fun k : Nat => (k : Int)) s
            rw [List.length_map] at h5
            have h6 : (Ls.take j).length ≤ Ls.length := List.length_take_le' _ _
            omega
          have hMk : (dropS n s (Ls.take j)).M.length ≤ 100000 := by
            rw [hga]
            exact Nat.le_trans (goAll_Mlen _ _) hM
          have hgd := dOf_gone (s := dropS n s (Ls.take j)) hslk Ls[j]
          rw [← hdt] at hgd
          have GN := dtab_gone hD (Nat.le_trans (liveE_len _ _) hn) (by exact hMk) (by exact hLk) Ls[j] hkx
          rw [hgd] at GN
          replace GN := Lib.hid GN
          replace hD := Lib.hid hD
          replace hX := Lib.hid hX
          replace hO := Lib.hid hO
          replace hAX := Lib.hid hAX
          generalize Ls[j] = kx at *
          clear hc hee hgd hga hdt hslk hLk hMk hje
          go_wp2_with (go_at_call 57; (with_reducible refine GN.out.mono ?_); rintro e w5 ⟨rfl, X5, h5, k5⟩)
          have hA5 : ∀ y, InB (some ad) y → ¬ X5 y := fun y hy hx => (k5.2 y hx).elim (fun h => hAX.out y hy h) (fun h => by have := (hO.out.block hy).2; omega)
          have hO5 := OwnA.chg hO.out k5.1 (fun y hy hx => hAX.out y hy hx)
          go_roundw
          case rel => exact ⟨j + 1, X5, by omega, by go_num, h5, hX.out.trans k5, hO5, hA5⟩
          case measure => simp [intOf]; omega
        · obtain rfl : j = Ls.length := by omega
          have hlti : ¬ ((Ls.length : Nat) : Int) < (Ls.length : Int) := by omega
          rw [List.take_length] at hD
          have hfin : DTo w wr g n b c (dOf n (dropS n s Ls)) X := DTo.mk hD hX
          replace hfin := Lib.hid hfin
          replace hO := Lib.hid hO
          clear hD hX hAX
          go_wp2_with fail
          go_ret
          exact ⟨A', q', by rw [hel.out]; rfl, hO.out, hfin.out⟩
end
end Go.Proofs.YtmkknjhalcocmaaGreat
