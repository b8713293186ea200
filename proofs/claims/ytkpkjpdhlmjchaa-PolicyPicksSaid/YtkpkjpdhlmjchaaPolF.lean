/- maglev: New at all four sizes; the table of one backend. -/
import Derived.Test.YtkpkjpdhlmjchaaTabF
namespace Go.Proofs.Ytkpkjpdhlmjchaa
open Go Go.RowKit Go.Deep

set_option maxRecDepth 1000000 in
theorem cop1021 : ∀ s, 1 ≤ s → s < 1021 → Nat.Coprime s 1021 := by
  have h : ∀ s : Fin 1021, 1 ≤ s.val → Nat.gcd s.val 1021 = 1 := by decide +kernel
  exact fun s h1 h2 => h ⟨s, h2⟩ h1
set_option maxRecDepth 1000000 in
theorem cop4093 : ∀ s, 1 ≤ s → s < 4093 → Nat.Coprime s 4093 := by
  have h : ∀ s : Fin 4093, 1 ≤ s.val → Nat.gcd s.val 4093 = 1 := by decide +kernel
  exact fun s h1 h2 => h ⟨s, h2⟩ h1
theorem wayOf_ok4 {ka kb : Int} {m : Nat} (hm : m = 13 ∨ m = 251 ∨ m = 1021 ∨ m = 4093) {l : List Int} (hl : ∀ i ∈ l, i ≠ 0) : WaysOk (l.map (wayOf ka kb m)) m := by
  intro w hw
  obtain ⟨i, hi, rfl⟩ := List.mem_map.1 hw
  refine ⟨hl i hi, Nat.mod_lt _ (by omega), ?_⟩
  have h := Nat.mod_lt (mhash ka kb 2 i.toNat) (show m - 1 > 0 by omega)
  rcases hm with rfl | rfl | rfl | rfl
  · exact cop13 _ (Nat.le_add_left _ _) (by unfold wayOf; simp only at h ⊢; omega)
  · exact cop251 _ (Nat.le_add_left _ _) (by unfold wayOf; simp only at h ⊢; omega)
  · exact cop1021 _ (Nat.le_add_left _ _) (by unfold wayOf; simp only at h ⊢; omega)
  · exact cop4093 _ (Nat.le_add_left _ _) (by unfold wayOf; simp only at h ⊢; omega)
theorem tableOf_one4 {ka kb : Int} {m : Nat} (hm : m = 13 ∨ m = 251 ∨ m = 1021 ∨ m = 4093) {id : Int} (h : id ≠ 0) : tableOf ka kb m [id] = List.replicate m id := by
  have h1 : ∀ i ∈ [id], i ≠ 0 := by simpa using h
  rw [List.eq_replicate_iff]
  have hi := mrun_inv (wayOf_ok4 (ka := ka) (kb := kb) hm h1) (by simp) m (Nat.le_refl m)
  refine ⟨hi.len, fun x hx => ?_⟩
  have h3 : x ≠ 0 := by
    intro e
    subst e
    have : 0 < freeC (tableOf ka kb m [id]) := List.countP_pos_iff.2 ⟨0, hx, by simp⟩
    have h := hi.free
    unfold tableOf at this
    omega
  rcases mrun_mem (by simp) m x hx with h2 | ⟨w, hw, h2⟩
  · exact absurd h2 h3
  · obtain ⟨i, hi, rfl⟩ := List.mem_map.1 hw
    have : i = id := by simpa using hi
    subst this
    exact h2.symm
set_option maxRecDepth 100000 in
set_option maxHeartbeats 8000000 in
theorem new_some4 (ver : Int) (l : List Bk) (A : Option Addr) (c : Nat) (ka kb : Int) (m : Nat) (w : World) (hr : Reads w w.heap.size 6 A l.length (l.flatMap Bk.cells)) (hm : m = 13 ∨ m = 251 ∨ m = 1021 ∨ m = 4093) (h0 : 0 < l.length) (hlm : l.length ≤ m) (hid : ∀ b ∈ l, 1 ≤ b.id ∧ b.id ≤ 65535) :
    Calls Try.prog 60 #[.agg #[.int .i64 ver, .slice A l.length c], .agg #[.int .u64 ka, .int .u64 kb], .int .i64 (m : Int)] w fun e w' => ∃ g, e = .returned (.tuple #[.pointer (some ⟨g, 0, none⟩), .int .i64 0]) ∧ TabF w' w.heap.size g ka kb (tableOf ka kb m (l.map Bk.id)) ∧ w.heap.size ≤ g ∧ Below w.heap.size w w' := by
  have hs : sizedB (m : Int) = true := by rcases hm with rfl | rfl | rfl | rfl <;> rfl
  have S := sized_any (m : Int)
  rw [hs] at S
  obtain ⟨ws, hws⟩ : ∃ ws, l.map (fun b => wayOf ka kb m b.id) = ws := ⟨_, rfl⟩
  have hws2 : (l.map Bk.id).map (wayOf ka kb m) = ws := by rw [List.map_map]; exact hws
  have hwl : ws.length = l.length := by rw [← hws, List.length_map]
  have hok : WaysOk ws m := hws2 ▸ wayOf_ok4 hm (fun i hi => by obtain ⟨b, hb, rfl⟩ := List.mem_map.1 hi; have := hid b hb; omega)
  have hsk : ∀ x ∈ ws, x.2.2 < m := by
    intro x hx
    rw [← hws] at hx
    obtain ⟨b, _, rfl⟩ := List.mem_map.1 hx
    have := Nat.mod_lt (mhash ka kb 2 b.id.toNat) (show m - 1 > 0 by omega)
    unfold wayOf; simp only; omega
  have htab : tableOf ka kb m (l.map Bk.id) = (mrun ws m m).1 := by unfold tableOf; rw [hws2]
  have hwk : ∀ (k : Nat) (b : Bk), l[k]? = some b → ws.take (k + 1) = ws.take k ++ [wayOf ka kb m b.id] := by
    intro k b hb
    obtain ⟨hk, rfl⟩ := List.getElem?_eq_some_iff.1 hb
    rw [List.take_succ_eq_append_getElem (by omega)]
    simp [← hws]
  have hidk : ∀ (k : Nat) (b : Bk), l[k]? = some b → ∃ n : Nat, b.id = n ∧ 1 ≤ n ∧ n < 65536 := by
    intro k b hb
    have := hid b (List.mem_of_getElem? hb)
    exact ⟨b.id.toNat, by omega, by omega, by omega⟩
  have BG := fun id W h => begin_any ka kb id m W h (by omega) (by omega)
  have B0 := (Blk.new w 36 #[.int .i64 ver, .slice A l.length c]).alloc (.cells #[.int .u64 ka, .int .u64 kb] 25)
  have K0 : Blk ((w.alloc (.cells #[.int .i64 ver, .slice A l.length c] 36)).alloc (.cells #[.int .u64 ka, .int .u64 kb] 25)) (w.heap.size + 1) 25 #[.int .u64 ka, .int .u64 kb] := by simpa using Blk.new (w.alloc (.cells #[.int .i64 ver, .slice A l.length c] 36)) 25 #[.int .u64 ka, .int .u64 kb]
  have e0 : ((l.length : Int) == 0) = false := by rw [beq_eq_false_iff_ne]; omega
  have e1 : decide (m < l.length) = false := by simp; omega
  have hm2 : m < 5000 := by omega
  have hm1 : 1 < m := by omega
  rw [htab]
  replace S := Lib.hid S
  replace BG := Lib.hid BG
  replace hok := Lib.hid hok
  replace hsk := Lib.hid hsk
  replace hwl := Lib.hid hwl
  replace hwk := Lib.hid hwk
  replace hidk := Lib.hid hidk
  replace hm := Lib.hid hm
  clear hs hws hws2 htab hid
  go_enter Try.func60, Try.ntmps60
  go_wp2_with fail
  go_step3
  go_wp2_with (go_at_call 98; with_reducible refine (S.out _).mono ?_; rintro e w1 ⟨rfl, hb1⟩; have B1 := B0.call hb1; have K1 := K0.call hb1; have hbA := below_chain hb1 (below_alloc (below_alloc (Below.refl w.heap.size w) (.cells #[.int .i64 ver, .slice A l.length c] 36)) (.cells #[.int .u64 ka, .int .u64 kb] 25)); have c1 := B1.cell 1; simp at c1; clear B0 K0)
  go_loopw [8, 32] (fun s i wr => ∃ (k : Nat) (P : Option Addr) (p : Nat), k ≤ l.length ∧ i = .int .i64 (k : Nat) ∧ s = .slice P k p ∧ OwnW wr w.heap.size P p (ws.take k) ∧ Blk wr (w.heap.size + 1) 25 #[.int .u64 ka, .int .u64 kb] ∧ ¬ InB P (w.heap.size + 1) ∧ Below w.heap.size w wr) (fun _ i _ => l.length - (intOf i).toNat)
  case atStart => exact ⟨0, none, 0, by omega, rfl, rfl, OwnA.nil _ _, K1, (fun h => by obtain ⟨a, ha, _⟩ := h; cases ha), hbA⟩
  case round =>
    obtain ⟨k, P, p, hk, rfl, rfl, hO, hK, hnP, hb⟩ := hrel
    by_cases hlt : k < l.length
    · have hlti : (k : Int) < (l.length : Int) := by omega
      obtain ⟨ad, b, rfl, hbl, hbk, c0, c1, c2, c3, c4, c5⟩ := bk_at (hr.below hb) hlt
      have hstep := hwk.out k b hbk
      obtain ⟨n, hn, hn1, hn2⟩ := hidk.out k b hbk
      have hol : (ws.take k).length = k := by rw [List.length_take, hwl.out]; omega
      have hzB := hb.size
      obtain ⟨bi, bw, bs, bv, bh, bo⟩ := b
      dsimp only at *
      subst hn
      have BB := BG.out n
      obtain ⟨y, hy⟩ : ∃ y, wayOf ka kb m (n : Int) = y := ⟨_, rfl⟩
      rw [hy] at BB hstep
      obtain ⟨y0, y1, y2⟩ := y
      unfold wayV at BB
      dsimp only at BB
      replace BB := Lib.hid BB
      replace hstep := Lib.hid hstep
      replace hy := Lib.hid hy
      replace hol := Lib.hid hol
      generalize ws.take k = L at *
      have k0 := hK.cell 0
      have k1 := hK.cell 1
      simp at k0 k1
      have hzK := hK.lt
      clear hbk hr hbA B1 K1
      go_wp2_with fail
      have hv : Below wr.heap.size wr (wr.alloc (.cells #[.int .i64 (n : Int), .int .i64 bw, .int .i64 bs, .bool bv, .int .u64 bh, .int .u64 bo] 47)) := below_alloc (Below.refl _ _) _
      have hb2 := below_chain hv hb
      have hO2 := hO.call hv
      have hK2 := hK.call hv
      refine (BB.out _ hn2).mono ?_
      rintro e w2 ⟨rfl, hb3⟩
      have hb4 := below_chain hb3 hb2
      have hO4 := hO2.call hb3
      have hK4 := hK2.call hb3
      have hz4 := hb4.size
      clear hv hb2 hO2 hK2 hb3 hb hO hK k0 k1 hzK c0 c1 c2 c3 c4 c5 hzB
      go_wp2_with (at_builtin; (refine wpList_push_way rfl (.tmp 36) (.tmp 42) rfl w.heap.size P p L (y0, y1, y2) k hol.out rfl hO4 _ (by simp) rfl rfl (by have := hol.out; omega) hz4 ?_; intro P1 p1 w3 ho1 hp1))
      have hK5 := (hK4.alloc (.cells #[.int .i64 y0, .int .i64 ((y1 : Nat) : Int), .int .i64 ((y2 : Nat) : Int)] 164))
      have hb5 := hp1.below hb4 (by omega) (fun b hb => (hO4.block hb).1)
      go_roundw
      case rel => exact ⟨k + 1, P1, p1, by omega, by go_num, rfl, by rw [hstep.out]; exact ho1, hK4.chg hp1.chg hnP, (fun hi => by rcases hp1.new _ hi with hi | hi; exact hnP hi; have := hK4.lt; omega), hb5⟩
      case measure => simp [intOf]; omega
    · obtain rfl : k = l.length := by omega
      have hlti : ¬ (l.length : Int) < (l.length : Int) := by omega
      have htk : ws.take l.length = ws := by rw [← hwl.out, List.take_length]
      rw [htk] at hO
      have hform := (show wr.ownsRow w.heap.size 164 3 (.slice P ws.length p) ws.length (ws.flatMap way0) from hO).form (by rw [hwl.out]; omega)
      obtain ⟨gw, cap, hfv, hgw, hgl⟩ := hform
      have hz0 := wcells_zero (ws := ws) (m := m) (fun x hx => (hok.out x hx).2.1)
      have hwn := hwl.out
      have hrow : WayRow wr w.heap.size gw ws.length cap (wcells ws m (mrun ws m 0).2) := by
        have h2 := (show wr.ownsRow w.heap.size 164 3 (.slice P ws.length p) ws.length (ws.flatMap way0) from hO)
        rw [hfv, hz0] at h2
        exact h2
      obtain ⟨rfl, rfl⟩ : P = some ⟨gw, 0, none⟩ ∧ p = cap := by
        simp only [Value.slice.injEq] at hfv
        exact ⟨hfv.1, hfv.2.2⟩
      replace hwn := Lib.hid hwn
      have hmk := run_make_row' (P := Try.prog) 66 3 (.int .i64 0) 8 Try.underlying66 info_int rfl .i64 .i64 m (by omega) (by omega)
      have k0 := hK.cell 0
      have k1 := hK.cell 1
      simp at k0 k1
      have hzK := hK.lt
      clear hO htk hz0 hfv hr hbA B1 K1
      go_wp2_with fail
      go_region
      go_wp2_with fail
      go_step3
      go_wp2_with fail
      have hP0 : PlAt ((wr.alloc (.cells (madeCells #[.int .i64 0] m) 3)).alloc (.cells #[.int .u64 ka, .int .u64 kb, .slice (some ⟨wr.heap.size, 0, none⟩) m m] 167)).drew wr.heap.size m (mrun ws m 0).1 := by
        refine (((World.rowIs_made wr (.int .i64 0) m 3).alloc _).drew).congr fun p hp => ?_
        show _ = Value.int .i64 ((List.replicate m 0).getD p 0)
        simp [List.getD_eq_getElem?_getD, hp]
      have hT0 : Blk ((wr.alloc (.cells (madeCells #[.int .i64 0] m) 3)).alloc (.cells #[.int .u64 ka, .int .u64 kb, .slice (some ⟨wr.heap.size, 0, none⟩) m m] 167)).drew (wr.heap.size + 1) 167 #[.int .u64 ka, .int .u64 kb, .slice (some ⟨wr.heap.size, 0, none⟩) m m] := by
        have := Blk.new (wr.alloc (.cells (madeCells #[.int .i64 0] m) 3)) 167 #[.int .u64 ka, .int .u64 kb, .slice (some ⟨wr.heap.size, 0, none⟩) m m]
        simp only [World.size_alloc] at this
        exact this
      have hW0 : WayRow ((wr.alloc (.cells (madeCells #[.int .i64 0] m) 3)).alloc (.cells #[.int .u64 ka, .int .u64 kb, .slice (some ⟨wr.heap.size, 0, none⟩) m m] 167)).drew w.heap.size gw ws.length p (wcells ws m (mrun ws m 0).2) := ownsRow_chg hrow ((((Chg.refl (fun _ => False) wr).alloc _).alloc _).drew) (fun _ _ h => h)
      have hM0 := MagSt.mk hW0 hP0 hT0
      have hbM : Below w.heap.size w ((wr.alloc (.cells (madeCells #[.int .i64 0] m) 3)).alloc (.cells #[.int .u64 ka, .int .u64 kb, .slice (some ⟨wr.heap.size, 0, none⟩) m m] 167)).drew := (below_alloc (below_alloc hb _) _).drew
      have hzw := hb.size
      clear hP0 hT0 hW0 hrow k0 k1 hzK hK hb hmk
      generalize ((wr.alloc (.cells (madeCells #[.int .i64 0] m) 3)).alloc (.cells #[.int .u64 ka, .int .u64 kb, .slice (some ⟨wr.heap.size, 0, none⟩) m m] 167)).drew = w3 at *
      generalize wr.heap.size = gp at *
      have hgt : w.heap.size ≤ gp + 1 := by omega
      have hgpw : w.heap.size ≤ gp := hzw
      generalize gp + 1 = gt at *
      go_loopg [12] m (fun g lf wx => ∃ t q : Nat, t + g = m ∧ t % ws.length = 0 ∧ lf = .int .i64 (q : Int) ∧ t + q = m ∧ MagSt wx w.heap.size gw p gp gt m ka kb ws t ∧ Below w.heap.size w wx)
      case atStart => exact ⟨0, m, by omega, by simp, rfl, by omega, hM0, hbM⟩
      case round =>
        obtain ⟨t, q, htg, htn, rfl, htq, hM, hb⟩ := hrel
        generalize wr = wo at *
        generalize gk = G at *
        clear hM0 hbM
        replace htn := Lib.hid htn
        go_wp2_with fail
        have hng : ws.length = l.length := hwn.out
        go_loopg [12, 53] l.length (fun g lf ix wx => ∃ i q : Nat, i + g = l.length ∧ ix = .int .i64 (i : Int) ∧ lf = .int .i64 (q : Int) ∧ t + i + q = m ∧ MagSt wx w.heap.size gw p gp gt m ka kb ws (t + i) ∧ Below w.heap.size w wx)
        case atStart => exact ⟨0, q, by omega, rfl, rfl, by omega, hM, hb⟩
        case round =>
          obtain ⟨i, q1, hig, rfl, rfl, hiq, hMi, hbi⟩ := hrel
          clear hM hb hng
          cases gk with
          | zero =>
            obtain rfl : i = l.length := by omega
            have hlti : ¬ (l.length : Int) < (l.length : Int) := by omega
            go_wp2_with fail
            go_roundg (G - l.length)
            case measure => omega
            case rel => exact ⟨t + l.length, q1, by omega, by rw [← hwn.out, Nat.add_mod_right]; exact htn.out, rfl, hiq, hMi, hbi⟩
          | succ g =>
            have hlti : (i : Int) < (l.length : Int) := by omega
            cases q1 with
            | zero =>
              go_wp2_with fail
              try rw [Exit.noGoto_ret]
              go_ret2
              have htm : t + i = m := by omega
              rw [htm] at hMi
              have hlen := (mrun_inv hok.out (by have := hwn.out; omega) m (Nat.le_refl m)).len
              exact ⟨gt, rfl, ⟨gp, hgpw, by rw [hlen]; exact hMi.tab, by rw [hlen]; exact hMi.pl⟩, hgt, hbi⟩
            | succ q =>
              have hq0 : (((q + 1 : Nat) : Int) == 0) = false := by rw [beq_eq_false_iff_ne]; omega
              have hiw : i < ws.length := by have := hwn.out; omega
              have hti : (t + i) % ws.length = i := by rw [Nat.add_mod, htn.out, Nat.zero_add, Nat.mod_mod, Nat.mod_eq_of_lt hiw]
              have hS := mrun_inv hok.out (by omega) (t + i) (by omega)
              have hpl := turn_place hok.out hS (by omega) hiw
              have hlo := goJ_taken (mrun ws m (t + i)).1 (ws.getD i (0, 0, 0)).2.1 (ws.getD i (0, 0, 0)).2.2 m (m - (mrun ws m (t + i)).2.getD i 0) ((mrun ws m (t + i)).2.getD i 0)
              have hc0 := wcells_at (ws := ws) (m := m) (js := (mrun ws m (t + i)).2) hiw (show 0 < 3 by omega)
              have hc1 := wcells_at (ws := ws) (m := m) (js := (mrun ws m (t + i)).2) hiw (show 1 < 3 by omega)
              have hc2 := wcells_at (ws := ws) (m := m) (js := (mrun ws m (t + i)).2) hiw (show 2 < 3 by omega)
              have hturn := fun (w1 : World) (J : Nat) => hMi.turn (w1 := w1) (J := J) hok.out (by omega) hiw hti
              obtain ⟨n1, n2, n3⟩ := hMi.ne1
              have hok1 := (hok.out.at hiw)
              simp only at hpl
              generalize hJ : goJ (mrun ws m (t + i)).1 (ws.getD i (0, 0, 0)).2.1 (ws.getD i (0, 0, 0)).2.2 m (m - (mrun ws m (t + i)).2.getD i 0) ((mrun ws m (t + i)).2.getD i 0) = J at *
              obtain ⟨hJm, hJ0, hJf⟩ := hpl
              replace hturn := fun (w1 : World) => hturn w1 J rfl
              generalize (mrun ws m (t + i)).2.getD i 0 = j0 at *
              have hskx : (ws.getD i (0, 0, 0)).2.2 < m := hsk.out _ (by rw [List.getD_eq_getElem?_getD, List.getElem?_eq_getElem hiw]; exact List.getElem_mem hiw)
              obtain ⟨y, hy⟩ : ∃ y, ws.getD i (0, 0, 0) = y := ⟨_, rfl⟩
              rw [hy] at hJ hJf hlo hc0 hc1 hc2 hturn hok1 hskx
              obtain ⟨yi, ya, ys⟩ := y
              simp only [wcell, List.getElem?_cons_zero, List.getElem?_cons_succ, Nat.add_zero] at hJ hJf hlo hc0 hc1 hc2 hturn hok1 hskx
              have K : ∀ (W : World), W = wr.drew → Calls Try.prog 100 #[.pointer (some ⟨gw, i * 3, none⟩), .slice (some ⟨gp, 0, none⟩) m m] W fun e w' =>
                  e = .returned (.int .i64 ((wayN ya ys m J : Nat) : Int)) ∧ WayRow w' w.heap.size gw ws.length p ((wcells ws m (mrun ws m (t + i)).2).set (i * 3 + 1) (.int .i64 ((wayN ya ys m (J + 1) : Nat) : Int))) ∧ Chg (· = gw) wr w' := by
                rintro W rfl
                refine (way_take w.heap.size gw ws.length p i (wcells ws m (mrun ws m (t + i)).2) ya ys m j0 J gp (mrun ws m (t + i)).1 wr.drew hMi.way hiw hc1 hc2 hMi.pl (by omega) hm2 hskx hJ0 (fun j h1 h2 => hlo j h1 h2) hJf n1 _ rfl).mono ?_
                rintro e w' ⟨h1, h2, h3⟩
                exact ⟨h1, h2, h3.undrew⟩
              have F : ∀ w1 : World, WayRow w1 w.heap.size gw ws.length p ((wcells ws m (mrun ws m (t + i)).2).set (i * 3 + 1) (.int .i64 ((wayN ya ys m (J + 1) : Nat) : Int))) → Chg (· = gw) wr w1 →
                  w1.cell? ⟨gt, 2, none⟩ = some (.slice (some ⟨gp, 0, none⟩) m m) ∧ w1.cell? ⟨gw, i * 3, none⟩ = some (.int .i64 yi) ∧ w1.cell? ⟨gp, wayN ya ys m J, none⟩ = some (.int .i64 0) ∧ w1.frozen? ⟨gp, wayN ya ys m J, none⟩ = false := by
                intro w1 h1 h2
                have a1 := hMi.tab.chg h2 (fun e => n2 e.symm)
                have a2 := rowIs_chg hMi.pl h2 (fun e => n1 e.symm)
                have a3 := h1.cellAt (i * 3) (by omega)
                rw [List.getElem?_set_ne (by omega), hc0] at a3
                have a4 := a2.cell (wayN_lt ya ys J (show 0 < m by omega))
                rw [hJf] at a4
                exact ⟨a1.cell 2, a3, a4, a2.frozen _⟩
              have s2 : wr.cell? ⟨gt, 2, none⟩ = some (.slice (some ⟨gp, 0, none⟩) m m) := hMi.tab.cell 2
              have s0 : wr.cell? ⟨gw, i * 3, none⟩ = some (.int .i64 yi) := by
                have a3 := hMi.way.cellAt (i * 3) (by omega)
                rwa [hc0] at a3
              have hxm := wayN_lt ya ys J (show 0 < m by omega)
              generalize wayN ya ys m J = x at *
              have hxi : (x : Int) < (m : Int) := by omega
              replace K := Lib.hid K
              replace F := Lib.hid F
              replace hturn := Lib.hid hturn
              replace hJ := Lib.hid hJ
              replace hok1 := Lib.hid hok1
              replace hti := Lib.hid hti
              replace hy := Lib.hid hy
              replace hlo := Lib.hid hlo
              clear hc0 hc1 hc2 hJf hS
              go_wp2_with fail
              go_region_with (go_at_call 100; (with_reducible refine (K.out _ rfl).mono ?_); rintro e w4 ⟨rfl, hrow4, hch4⟩; clear s0 s2; obtain ⟨s2, s0, s3, q3⟩ := F.out w4 hrow4 hch4)
              all_goals
                have hfin := hturn.out w4 hrow4 hch4
                have hbf : Below w.heap.size w (w4.setCell ⟨gp, x, none⟩ (.int .i64 yi)) := (below_chg hbi hch4 (fun b hb e => by omega) hbi.size).setCell hgpw _
                clear s0 s2 s3 q3 hrow4 hch4
                go_wp2_with fail
                go_roundg g
                case measure => omega
                case rel => exact ⟨i + 1, q, by omega, by go_num, by go_num, by omega, hfin, hbf⟩
end Go.Proofs.Ytkpkjpdhlmjchaa
