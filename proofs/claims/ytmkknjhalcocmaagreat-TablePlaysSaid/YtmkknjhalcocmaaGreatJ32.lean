/- table: the document's Go. -/
import Derived.Test.YtmkknjhalcocmaaGreatJ30
import Derived.Test.YtmkknjhalcocmaaGreatJ31
namespace Go.Proofs.YtmkknjhalcocmaaGreat
open Go Go.RowKit Go.Deep Go.Maps Go.ChangeMaps

theorem goAll_Mlen {n : Nat} : ∀ (S : List Int) (s : TSt), (goAll n s S).M.length ≤ s.M.length
  | [], _ => Nat.le_refl _
  | x :: S, s => Nat.le_trans (goAll_Mlen S (goS n s x.toNat)) (lmDel_length _ _)
theorem pushL_len (n : Nat) (L : List Int) (i : Int) : (pushL n L i).length ≤ L.length + 1 := by
  unfold pushL
  split
  · simp
  · omega
theorem goAll_Llen {n : Nat} : ∀ (S : List Int) (s : TSt), (goAll n s S).L.length ≤ s.L.length + S.length
  | [], _ => Nat.le_refl _
  | x :: S, s => by
    have h1 := goAll_Llen (n := n) S (goS n s x.toNat)
    have h2 : (goS n s x.toNat).L.length ≤ s.L.length + 1 := pushL_len n s.L _
    have h3 : (goAll n s (x :: S)) = goAll n (goS n s x.toNat) S := rfl
    rw [h3, List.length_cons]
    omega
section
variable {w w' w1 w2 : World} {g n : Nat} {b : Int} {c : TCfg} {d : DTs} {s : TSt} {X X1 X2 F : Nat → Prop}
theorem DTabP.wheel2 (h : DTabP w g n b c d X) : ∃ wg Y, (∀ y, Y y → X y) ∧ w.cell? ⟨g, 6, none⟩ = some (.pointer (some ⟨wg, 0, none⟩)) ∧ RWheelP w wg c.G d.now d.M Y ∧ ∀ (w' : World) (now' : Int) (M' : LM) (Y' : Nat → Prop), RWheelP w' wg c.G now' M' Y' → Chg Y w w' → (∀ y, Y' y → Y y ∨ w.heap.size ≤ y) → ∃ X', DTabP w' g n b c { d with now := now', M := M' } X' ∧ Chg X w w' ∧ ∀ y, X' y → X y ∨ Y' y := by
  have hlt := fun x (hx : X x) => h.lt hx
  obtain ⟨fs, wg, gb, F', Y, A, q, h1, h2, h3, h4, h5, h6, h7, h8, h9, h10, h11⟩ := h
  refine ⟨wg, Y, fun y hy => (h6 y).2 (.inr (.inr (.inr (.inr hy)))), h1.cell 6, h3, fun w' now' M' Y' k1 k2 k3 => ?_⟩
  have hY : ∀ y, Y y → X y := fun y hy => (h6 y).2 (.inr (.inr (.inr (.inr hy))))
  have hnew : ∀ y, X y → ¬ Y y → ¬ Y' y := fun y hx hn hy => (k3 y hy).elim hn fun h => by have := hlt y hx; omega
  have gX : X g := (h6 g).2 (.inl rfl)
  have gbX : X gb := (h6 gb).2 (.inr (.inl rfl))
  have gY : ¬ Y g := fun hy => (h8 g (.inr hy)).1 rfl
  have gbY : ¬ Y gb := fun hy => (h8 gb (.inr hy)).2.1 rfl
  have AY : ∀ y, InB A y → ¬ Y y := fun y hi hy => (h8 y (.inr hy)).2.2 hi
  refine ⟨fun x => x = g ∨ x = gb ∨ InB A x ∨ F' x ∨ Y' x, ⟨fs, wg, gb, F', Y', A, q, h1.chg k2 gY, h2.chg k2 h7, k1, h4.chg k2 AY, rowIs_chg h5 k2 gbY, fun x => Iff.rfl, fun x hx => hnew x ((h6 x).2 (.inr (.inr (.inr (.inl hx))))) (h7 x hx), fun x hx => ?_, h9, h10, h11⟩, k2.mono fun y _ hy => hY y hy, fun y hy => ?_⟩
  · rcases hx with hx | hx
    · exact h8 x (.inl hx)
    · refine ⟨?_, ?_, fun hi => hnew x ((h6 x).2 (.inr (.inr (.inl hi)))) (AY x hi) hx⟩
      · rintro rfl
        exact hnew _ gX gY hx
      · rintro rfl
        exact hnew _ gbX gbY hx
  · rcases hy with rfl | rfl | hy | hy | hy
    · exact .inl gX
    · exact .inl gbX
    · exact .inl ((h6 y).2 (.inr (.inr (.inl hy))))
    · exact .inl ((h6 y).2 (.inr (.inr (.inr (.inl hy)))))
    · exact .inr hy
theorem dtab_wgo (h : DTabP w g n b c d X) (hM : d.M.length ≤ 100000) (nw : Int) {S : List Int} (hS : GoS c.G d.now nw d.M S) : ∃ wg, w.cell? ⟨g, 6, none⟩ = some (.pointer (some ⟨wg, 0, none⟩)) ∧ Calls Tryz.prog 58 #[.pointer (some ⟨wg, 0, none⟩), .int .i64 nw] w fun e w' => ∃ (B : Option Addr) (q : Nat) (X' : Nat → Prop), e = .returned (.tuple #[.slice B S.length q, .int .i64 (goE d.now nw)]) ∧ Reads w' w'.heap.size 1 B S.length (S.map (.int .i64)) ∧ (∀ y, InB B y → ¬ X' y) ∧ DTabP w' g n b c { d with now := goN d.now nw, M := delAll d.M S } X' ∧ XTo w w' X X' := by
  have hlt := fun x (hx : X x) => h.lt hx
  obtain ⟨wg, Y, hYX, h1, h2, h3⟩ := h.wheel2
  refine ⟨wg, h1, (rwheelp_go h2 hM nw hS).mono ?_⟩
  rintro e w' ⟨B, q, rfl, k1, k2, Y', k3, k4, k5, k6⟩
  obtain ⟨X', m1, m2, m3⟩ := h3 w' _ _ Y' k3 k5 k6
  refine ⟨B, q, X', rfl, k1, fun y hy hx => ?_, m1, m2, fun y hy => ?_⟩
  · rcases m3 y hx with h | h
    · have := hlt y h
      have := k2 y hy
      omega
    · exact k4 y hy h
  · rcases m3 y hy with h | h
    · exact .inl h
    · exact (k6 y h).imp (hYX y) id
set_option maxRecDepth 100000 in
set_option maxHeartbeats 16000000 in
theorem ddtab_go (h : DTabP w g n b c (dOf n s) X) (hti : TI n s) (nw : Int) {S : List Int} (hS : GoS c.G s.now nw s.M S) :
    Calls Tryz.prog 29 #[.pointer (some ⟨g, 0, none⟩), .int .i64 nw] w fun e w' => ∃ (B : Option Addr) (q : Nat), e = .returned (.tuple #[.slice B S.length q, .int .i64 (goE s.now nw)]) ∧ OwnE w' w.heap.size B q (goEnts s S) ∧ DTo w w' g n b c (dOf n (goTab n s nw S)) X := by
  have hn := h.n4096
  have hM := hti.mlen5 hn
  have hxS : ∀ x ∈ S, 0 ≤ x ∧ x < n ∧ (s.E x.toNat).used = true := fun x hx => by
    cases hg : goOk s.now nw
    · rw [hS.no hg] at hx
      cases hx
    · exact (hti.has x).1 ((hS.mem hg x).1 hx).1
  have hSl : S.length ≤ n := by
    have h1 := hti.go hS
    have h2 := live_free h1.1
    rw [h1.2.2.2.1, List.length_append, List.length_reverse] at h2
    omega
  have hLl : s.L.length ≤ n := by have := live_free hti; omega
  have hnd := hS.nd
  have hsl := hti.sl
  have hno := hS.no
  obtain ⟨wg, c6, WG⟩ := dtab_wgo h (by exact hM) nw (S := S) (by exact hS)
  obtain ⟨s1, hs1⟩ : ∃ s1, ({ s with now := goN s.now nw, M := delAll s.M S } : TSt) = s1 := ⟨_, rfl⟩
  have hs1E : s1.E = s.E := by rw [← hs1]
  have hs1L : s1.L.length ≤ n := by rw [← hs1]; exact hLl
  have hs1M : s1.M.length ≤ 100000 := by rw [← hs1]; exact Nat.le_trans (delAll_len _ _) hM
  have hd1 : ({ dOf n s with now := goN (dOf n s).now nw, M := delAll (dOf n s).M S } : DTs) = dOf n s1 := by rw [← hs1]
  have hgt : goTab n s nw S = goAll n s1 S := by unfold goTab; rw [hs1]
  rw [hd1] at WG
  rw [hgt]
  dsimp only [dOf] at WG
  clear hs1 hd1 hgt hM hti
  replace hS := Lib.hid hS
  replace h := Lib.hid h
  replace WG := Lib.hid WG
  replace hxS := Lib.hid hxS
  replace hnd := Lib.hid hnd
  replace hsl := Lib.hid hsl
  replace hno := Lib.hid hno
  replace hs1E := Lib.hid hs1E
  obtain ⟨ge, hge⟩ : ∃ v, goE s.now nw = v := ⟨_, rfl⟩
  rw [hge] at WG ⊢
  by_cases hg : goOk s.now nw = true
  · obtain rfl : (0 : Int) = ge := by rw [← hge]; unfold goE; rw [if_pos hg]
    clear hge
    go_enter Tryz.func29, Tryz.ntmps29
    go_upto_region 4 with (go_at_call 58; (with_reducible refine WG.out.mono ?_); rintro e w1 ⟨B, q, X1, rfl, hrB, hBX, h1, k1⟩)
    replace h1 := Lib.hid h1
    replace k1 := Lib.hid k1
    replace hBX := Lib.hid hBX
    replace hrB := Lib.hid hrB
    clear c6 WG hS
    go_wp2_with fail
    go_loopw [8, 9] (fun ov iv wr => ∃ (k : Nat) (A' : Option Addr) (q' : Nat) (Xk : Nat → Prop), k ≤ S.length ∧ iv = .int .i64 (k : Nat) ∧ ov = .slice A' k q' ∧ OwnE wr w.heap.size A' q' (goEnts s (S.take k)) ∧ DTabP wr g n b c (dOf n (goAll n s1 (S.take k))) Xk ∧ XTo w wr X Xk ∧ (∀ y, InB A' y → ¬ Xk y) ∧ (∀ y, InB B y → ¬ Xk y) ∧ (∀ y, InB B y → ¬ InB A' y) ∧ Reads wr wr.heap.size 1 B S.length (S.map (.int .i64))) (fun _ iv _ => S.length - (intOf iv).toNat)
    case atStart => exact ⟨0, none, 0, X1, by omega, rfl, rfl, OwnA.nil _ _, h1.out, k1.out, fun y hy => absurd hy inB_none, hBX.out, fun y _ hy => absurd hy inB_none, hrB.out⟩
    case round =>
      clear h1 k1 hBX hrB X1
      obtain ⟨k, A', q', Xk, hk, rfl, rfl, hO, hT, hX, hAX, hBX, hBA, hrB⟩ := hrel
      have hwz := hX.1.size
      by_cases hlt : k < S.length
      · have hlti : (k : Int) < (S.length : Int) := by omega
        have hlen : (goEnts s (S.take k)).length = k := by unfold goEnts; rw [List.length_map, List.length_take]; omega
        have hst : goEnts s (S.take (k + 1)) = goEnts s (S.take k) ++ [s.E S[k].toNat] := by
          unfold goEnts
          rw [List.take_succ_eq_append_getElem hlt, List.map_append]
          rfl
        have hgt := goAll_take n s1 hlt
        obtain ⟨ab, rfl, hbl, hcb⟩ := hrB.int_at (xs := S) hlt
        rw [List.getD_eq_getElem?_getD, List.getElem?_eq_getElem hlt] at hcb
        have hx := hxS.out S[k] (List.getElem_mem hlt)
        have hnk : ∀ x ∈ S.take k, x ≠ S[k] := fun x hx e => by
          obtain ⟨j, hj, rfl⟩ := List.mem_iff_getElem.1 hx
          rw [List.length_take] at hj
          rw [List.getElem_take] at e
          have := (List.pairwise_iff_getElem.1 hnd.out) j k (by omega) hlt (by omega)
          exact this e
        obtain ⟨kx, hkx⟩ : ∃ kx : Nat, S[k] = (kx : Int) := ⟨S[k].toNat, by omega⟩
        have hnk2 : ∀ x ∈ S.take k, x.toNat ≠ kx := fun x hx e => by
          have h5 := hxS.out x (List.take_subset _ _ hx)
          have := hnk x hx
          omega
        dsimp only [Option.getD_some] at hcb
        rw [hkx] at hcb hx hst hgt
        rw [Int.toNat_natCast] at hx hst hgt
        have hkn : kx < n := by omega
        have hslk := goAll_sl (S.take k) s1 (fun q hq => by rw [hs1E.out]; exact hsl.out q hq)
        have hEk : (goAll n s1 (S.take k)).E kx = s.E kx := (goAll_E (S.take k) s1 kx hnk2).trans (by rw [hs1E.out])
        have hLk : (goAll n s1 (S.take k)).L.length ≤ 1000000 := by
          have h5 := goAll_Llen (n := n) (S.take k) s1
          have h6 : (S.take k).length ≤ S.length := List.length_take_le' _ _
          omega
        have hMk : (goAll n s1 (S.take k)).M.length ≤ 100000 := Nat.le_trans (goAll_Mlen _ _) hs1M
        have hgd := dOf_gone (s := goAll n s1 (S.take k)) hslk kx
        rw [← hgt] at hgd
        generalize goAll n s1 (S.take k) = sk at *
        have hn2 := Nat.le_trans (liveE_len sk.E n) hn
        obtain ⟨j, hj, hje, hjn⟩ := live_idx (E := sk.E) hslk hkn (by rw [hEk]; exact hx.2.2)
        have AT := Lib.hid (dtab_at hT (Nat.le_trans hn2 (by omega)) kx j hj (by rw [hje]; exact hslk kx hkn) hjn)
        obtain ⟨_, _, _, A, qa, -, -, c7, -, -, -, hOw, -, -, -⟩ := hT.cells
        obtain ⟨ad, rfl, -, hc⟩ := hOw.reads.rec_at Slt.ent (fun _ => rfl) hj
        obtain ⟨xs, hxs⟩ : ∃ xs, s.E kx = xs := ⟨_, rfl⟩
        rw [hje, hEk, hxs] at hc
        rw [hxs] at hst
        obtain ⟨ll, hll⟩ : ∃ ll, (liveE sk.E n).length = ll := ⟨_, rfl⟩
        dsimp only [dOf] at c7
        have hj2 : j < ll := hll ▸ hj
        rw [hll] at c7
        have hji : (j : Int) < (ll : Int) := by exact_mod_cast hj2
        have hj0 : (0 : Int) ≤ (j : Int) := by omega
        have hk0 : (0 : Int) ≤ (k : Int) := by omega
        replace hc := Lib.hid hc
        clear hOw hje hjn hj hll hx hxs hnk hnk2 hkx hEk
        replace hslk := Lib.hid hslk
        replace hgd := Lib.hid hgd
        replace hst := Lib.hid hst
        replace hgt := Lib.hid hgt
        replace hT := Lib.hid hT
        replace hO := Lib.hid hO
        replace hAX := Lib.hid hAX
        replace hBX := Lib.hid hBX
        replace hBA := Lib.hid hBA
        replace hrB := Lib.hid hrB
        replace hX := Lib.hid hX
        go_upto_region 10 with (first
          | (go_at_call 53; (with_reducible refine AT.out.mono ?_); rintro e w3 ⟨rfl, rfl⟩)
          | (refine wpList_load_entR rfl (.tmp 41) rfl (ad.add (j * 14)) rfl xs hc.out ?_)
          | (at_builtin; refine wpList_push_ent rfl (.tmp 35) (.tmp 43) rfl w.heap.size A' q' (goEnts s (S.take k)) xs k hlen rfl hO.out _ rfl rfl rfl (by omega) (by omega) ?_; intro A4 a4 w4 hO4 hp4))
        have hT4 := hT.out.chg hp4.chg (fun y hy hi => hAX.out y hi hy)
        have hX4 : XTo w w4 X Xk := ⟨hX.out.1.trans hp4.chg (fun y hy hi => by have := (hO.out.block hi).1; omega), hX.out.2⟩
        have hz4 := hp4.chg.size
        have hr4 := hrB.out.chg hp4.chg (fun a e hi => hBA.out a.block ⟨a, e, rfl⟩ hi)
        have hA4 : ∀ y, InB A4 y → ¬ Xk y := fun y hy hx => (hp4.new y hy).elim (fun h => hAX.out y h hx) (fun h => by have := hT.out.lt hx; omega)
        have hB4 : ∀ y, InB (some ab) y → ¬ InB A4 y := fun y hy hi => (hp4.new y hi).elim (fun h => hBA.out y hy h) (fun h => by
          obtain ⟨a, e, rfl⟩ := hy
          cases e
          omega)
        have hcb4 : w4.cell? (ab.add k) = some (.int .i64 (kx : Int)) := (cell_chg hp4.chg (block_lt_of_cell hcb) (fun hi => hBA.out (ab.add k).block ⟨ab, rfl, (block_of_add _ _).symm⟩ hi)).trans hcb
        have GN := dtab_gone hT4 hn2 (by exact hMk) (by exact hLk) kx hkn
        rw [hgd.out] at GN
        replace GN := Lib.hid GN
        have hw4 : ab.block < w4.heap.size := by omega
        replace hr4 := Lib.hid hr4
        replace hX4 := Lib.hid hX4
        replace hO4 := Lib.hid hO4
        replace hA4 := Lib.hid hA4
        replace hB4 := Lib.hid hB4
        clear hT hO hAX hBA hrB hX hT4 hp4 hcb c7 hc AT
        go_wp2_with (go_at_call 57; (with_reducible refine GN.out.mono ?_); rintro e w5 ⟨rfl, X5, h5, k5⟩)
        have hA5 : ∀ y, InB A4 y → ¬ X5 y := fun y hy hx => (k5.2 y hx).elim (fun h => hA4.out y hy h) (fun h => by have := (hO4.out.block hy).2; omega)
        have hB5 : ∀ y, InB (some ab) y → ¬ X5 y := fun y hy hx => (k5.2 y hx).elim (fun h => hBX.out y hy h) (fun h => by
          obtain ⟨a, e, rfl⟩ := hy
          cases e
          omega)
        have hO5 := OwnA.chg hO4.out k5.1 (fun y hy hx => hA4.out y hy hx)
        have hr5 := hr4.out.chg k5.1 (fun a e hx => hBX.out a.block ⟨a, e, rfl⟩ hx)
        go_roundw
        case rel => exact ⟨k + 1, A4, a4, X5, by omega, by go_num, rfl, by rw [hst.out]; exact hO5, h5, hX4.out.trans k5, hA5, hB5, hB4.out, hr5⟩
        case measure => simp [intOf]; omega
      · obtain rfl : k = S.length := by omega
        have hlti : ¬ ((S.length : Nat) : Int) < (S.length : Int) := by omega
        rw [List.take_length] at hO hT
        have hfin : DTo w wr g n b c (dOf n (goAll n s1 S)) X := DTo.mk hT hX
        replace hfin := Lib.hid hfin
        replace hO := Lib.hid hO
        clear hT hX hAX hBX hBA hrB
        go_wp2_with fail
        go_ret2
        exact ⟨A', q', rfl, hO.out, hfin.out⟩
  · have hge1 : goE s.now nw = 15 := by unfold goE; rw [if_neg hg]
    obtain rfl : (15 : Int) = ge := by rw [← hge, hge1]
    obtain rfl := hno.out (by simpa using hg)
    clear hge hge1 hg
    go_enter Tryz.func29, Tryz.ntmps29
    go_wp2_with (go_at_call 58; (with_reducible refine WG.out.mono ?_); rintro e w1 ⟨B, q, X1, rfl, hrB, hBX, h1, k1⟩)
    have hfin : DTo w w1 g n b c (dOf n (goAll n s1 [])) X := DTo.mk h1 k1
    replace hfin := Lib.hid hfin
    clear hrB hBX h1 k1
    go_ret2
    exact ⟨none, 0, rfl, OwnA.nil _ _, hfin.out⟩
end
end Go.Proofs.YtmkknjhalcocmaaGreat
