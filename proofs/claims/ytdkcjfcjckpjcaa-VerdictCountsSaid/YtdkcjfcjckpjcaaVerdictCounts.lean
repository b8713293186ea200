/- VerdictCounts: its contract. -/
import Derived.Test.YtdkcjfcjckpjcaaVerdictU
import Derived.Test.YtdkcjfcjckpjcaaVerdictT
import Derived.Test.YtdkcjfcjckpjcaaVerdictG
import Derived.Deep.RegionHeld3
namespace Go.Proofs.Ytdkcjfcjckpjcaa
open Go Go.RowKit Go.Deep

theorem held6 {w0 W w1 : World} {p : Addr} {v0 v1 v2 v3 v4 v5 : Value} (hz : p.block < w0.heap.size)
    (h : Below w0.heap.size w0 W ∧ W.cell? p = some v0 ∧ W.cell? ⟨p.block, p.off + 1, none⟩ = some v1 ∧ W.cell? ⟨p.block, p.off + 2, none⟩ = some v2 ∧ W.cell? ⟨p.block, p.off + 3, none⟩ = some v3 ∧ W.cell? ⟨p.block, p.off + 4, none⟩ = some v4 ∧ W.cell? ⟨p.block, p.off + 5, none⟩ = some v5)
    (hb : Below W.heap.size W w1) :
    Below w0.heap.size w0 w1 ∧ w1.cell? p = some v0 ∧ w1.cell? ⟨p.block, p.off + 1, none⟩ = some v1 ∧ w1.cell? ⟨p.block, p.off + 2, none⟩ = some v2 ∧ w1.cell? ⟨p.block, p.off + 3, none⟩ = some v3 ∧ w1.cell? ⟨p.block, p.off + 4, none⟩ = some v4 ∧ w1.cell? ⟨p.block, p.off + 5, none⟩ = some v5 := by
  obtain ⟨hB, h0, h1, h2, h3, h4, h5⟩ := h
  have hs := hB.size
  have hk : ∀ q : Addr, q.block = p.block → w1.cell? q = W.cell? q := fun q e => hb.cell (by rw [e]; omega)
  exact ⟨below_call hB hs hb, (hk _ rfl).trans h0, (hk ⟨p.block, p.off + 1, none⟩ rfl).trans h1, (hk ⟨p.block, p.off + 2, none⟩ rfl).trans h2, (hk ⟨p.block, p.off + 3, none⟩ rfl).trans h3, (hk ⟨p.block, p.off + 4, none⟩ rfl).trans h4, (hk ⟨p.block, p.off + 5, none⟩ rfl).trans h5⟩

theorem below_grown_nil {w w1 : World} (h : w.grownBy w1 (Value.slice none 0 0).ownBlock) : Below w.heap.size w w1 := (Below.refl _ _).grown h (Nat.le_refl _) (fun k hk => by simp [Value.ownBlock] at hk)

set_option maxRecDepth 100000 in
set_option maxHeartbeats 4000000 in
theorem verdictCounts_calls (A : Option Addr) (c : Nat) (l : List Vd) (B : Option Addr) (d : Nat) (m : List Vd) (k e : Int) (w : World)
    (hr : Reads w w.heap.size 6 A l.length (vcells l)) (hs : ∀ v ∈ l, v.s.size ≤ 9223372036854775807) (hl : l.length ≤ 9223372036854775807)
    (hr2 : Reads w w.heap.size 6 B m.length (vcells m)) (hs2 : ∀ v ∈ m, v.s.size ≤ 9223372036854775807) (hl2 : m.length ≤ 9223372036854775807) :
    Calls Try.prog 7 #[.slice A l.length c, .slice B m.length d, .int .i64 k, .int .i64 e] w fun e w' => e = .returned (.bool true) ∧ Below w.heap.size w w' := by
  go_enter Try.func7, Try.ntmps7
  go_wp2_with fail
  refine (few_any A c l w hr hs hl).mono ?_
  rintro e' w' ⟨⟨R, rfl, hR⟩, rfl⟩
  cases R
  · go_wp2_with fail
    refine (awake31 w).mono ?_
    rintro e' w1 ⟨rfl, hb1⟩
    go_wp2_with fail
    go_ret
    exact ⟨rfl, hb1⟩
  have hf := hR rfl
  clear hR
  go_wp2_with fail
  refine (few_any B d m w hr2 hs2 hl2).mono ?_
  rintro e' w' ⟨⟨R, rfl, hR⟩, rfl⟩
  cases R
  · go_wp2_with fail
    refine (awake31 w).mono ?_
    rintro e' w1 ⟨rfl, hb1⟩
    go_wp2_with fail
    go_ret
    exact ⟨rfl, hb1⟩
  have hf2 := hR rfl
  clear hR hs hs2 hl hl2
  go_wp2_with fail
  refine (board_any A c l w hr hf).mono ?_
  rintro e' w1 ⟨g1, rfl, hB1, hb1, hg1⟩
  go_wp2_with fail
  refine (board_any B d m w1 ((hr2.below hb1).more hb1.size) hf2).mono ?_
  rintro e' w2 ⟨g2, rfl, hB2, hb2, hg2⟩
  have hB1' := hB1.below hb2 hB1.lt
  have hlt1 := hB1.lt
  have hbd1 := boardOf_few hf l.length
  have hbd2 := boardOf_few hf2 m.length
  rw [List.take_length] at hbd1 hbd2
  have hJ := J_add (J_board l) (J_board m)
  go_wp2_with fail
  refine (add_any g1 g2 (boardOf l) (boardOf m) w2 hB1' hB2 (by omega) (fun i => by have := hbd1 i; omega) (fun i => by have := hbd2 i; omega)).mono ?_
  rintro e' w3 ⟨rfl, hB3, hc3⟩
  have hz1 := hb1.size
  have hz2 := hb2.size
  have hb3 : Below w.heap.size w w3 := below_chg (below_call hb1 hz1 hb2) hc3 (fun b h e => by omega) (by omega)
  obtain ⟨F, hF⟩ : ∃ F, F = fun i => boardOf l i + boardOf m i := ⟨_, rfl⟩
  have hFb : ∀ i, 0 ≤ F i ∧ F i ≤ 8000 := fun i => by rw [hF]; have := hbd1 i; have := hbd2 i; constructor <;> (simp only; omega)
  rw [← hF] at hJ hB3
  clear hF hbd1 hbd2 hB1 hB1' hB2 hc3 hb1 hb2 hg1 hg2 hlt1 hz1 hz2
  have hl30 := hf.1
  have hm30 := hf2.1
  have hzz := hb3.size
  have hr3 := (hr.below hb3).more hzz
  have hr4 := (hr2.below hb3).more hzz
  clear hr hr2 hzz
  go_wp2_with fail
  go_loopw [10] (fun i wr => ∃ k, k ≤ l.length ∧ i = .int .i64 (k : Nat) ∧ Below w3.heap.size w3 wr) (fun i _ => l.length - (intOf i).toNat)
  case atStart => exact ⟨0, by omega, rfl, Below.refl _ _⟩
  case round =>
    obtain ⟨i, hi, rfl, hbw⟩ := hrel
    by_cases hlt : i < l.length
    · have hlti : (i : Int) < (l.length : Int) := by omega
      obtain ⟨ad, v, rfl, had, hv, c0, c1, c2, c3, c4, c5⟩ := VR.at_ (hr3.below hbw) hlt
      have hz := hbw.size
      have hz0 : (ad.add (i * 6)).block < wr.heap.size := by rw [block_of_add]; omega
      obtain ⟨V, hV⟩ : ∃ V, vRight v = V := ⟨_, rfl⟩
      have C1 := right_v v
      have C2 := refright31 v
      have C3 := of_v v
      rw [hV] at C1 C2
      replace C1 := Lib.hid C1
      replace C2 := Lib.hid C2
      replace C3 := Lib.hid C3
      clear hr3 hr4 hJ hFb hB3 hf hf2
      obtain ⟨k0, er, b, cc, fi, s⟩ := v
      have hVV : (V != V) = false := by cases V <;> rfl
      go_wp2_with fail
      go_region_held3 (fun w' => Below wr.heap.size wr w' ∧ w'.cell? (ad.add (i * 6)) = some (.int .i64 k0) ∧ w'.cell? ⟨(ad.add (i * 6)).block, (ad.add (i * 6)).off + 1, none⟩ = some (.int .i64 er) ∧ w'.cell? ⟨(ad.add (i * 6)).block, (ad.add (i * 6)).off + 2, none⟩ = some (.int .i64 b) ∧ w'.cell? ⟨(ad.add (i * 6)).block, (ad.add (i * 6)).off + 3, none⟩ = some (.int .u64 cc) ∧ w'.cell? ⟨(ad.add (i * 6)).block, (ad.add (i * 6)).off + 4, none⟩ = some (.bool fi) ∧ w'.cell? ⟨(ad.add (i * 6)).block, (ad.add (i * 6)).off + 5, none⟩ = some (.string s)) ((first | assumption | ((refine ⟨?_, ?_⟩; (first | assumption | exact (Below.refl _ _).drew); go_keep)))) (first
        | (go_at_call 48; refine (C3.out _).mono ?_; rintro e w1 ⟨rfl, hb1⟩; have hS := held6 hz0 (by assumption) hb1)
        | (go_at_call 47; refine (C1.out _).mono ?_; rintro e w1 ⟨rfl, hb1⟩; have hS := held6 hz0 (by assumption) hb1)
        | (go_at_call 49; refine (C2.out _).mono ?_; rintro e w1 ⟨rfl, hb1⟩; have hS := held6 hz0 (by assumption) hb1))
      go_wp2_with fail
      go_roundw
      case rel => exact ⟨i + 1, by omega, by go_num, hbw.trans (hS.1.mono hz)⟩
      case measure => simp [intOf]; omega
    · have hlti : ¬ (i : Int) < (l.length : Int) := by omega
      obtain ⟨i0, hi0, hz0, hz1, hz2⟩ := info_parts info_vd
      have hz := hbw.size
      have hBr := hB3.below hbw hB3.lt
      have hbA := below_call hb3 hb3.size hbw
      have hzA := hbA.size
      have hrl := (hr3.below hbw).more hz
      have hrm := (hr4.below hbw).more hz
      obtain ⟨hn1, hv1⟩ := goodTo_few hf
      obtain ⟨hn2, hv2⟩ := goodTo_few hf2
      have G1 := good_any A c l wr hrl hl30
      have G2 := fun W h => good_any B d m W h hm30
      obtain ⟨L1, hL1⟩ : ∃ L, L = goodTo l l.length := ⟨_, rfl⟩
      obtain ⟨L2, hL2⟩ : ∃ L, L = goodTo m m.length := ⟨_, rfl⟩
      rw [← hL1] at hn1 hv1 G1 hJ
      rw [← hL2] at hn2 hv2 G2 hJ
      clear hL1 hL2 hb3 hB3 hbw hr3 hr4 hf hf2 hz
      replace G2 := Lib.hid G2
      replace hJ := Lib.hid hJ
      replace hFb := Lib.hid hFb
      go_wp2_with fail
      refine G1.mono ?_
      rintro e' w4 ⟨A1, c1, rfl, hown1, hb4⟩
      have hz4 := hb4.size
      clear G1
      go_wp2_with (at_builtin; refine wpList_append_sl _ rfl (.tmp 50) (.tmp 52) 49 rfl wr.heap.size 60 i0 _ 6 56 Try.underlying49 hi0 hz0 hz1 hz2 rfl (by decide) (.slice none 0 0) 0 [] rfl (World.ownsRow_nil _ _ _ _) w4.heap.size A1 L1.length c1 (vcells L1) rfl (Reads.of_own hown1) (vcells_one _) (by unfold maxLen; omega) (by omega) (by omega) ?_; intro A5 c5 w5 hown5 hg5 hat5; simp only [Nat.zero_add, List.nil_append] at hown5 hg5 hat5 ⊢)
      have hb5 := below_call hb4 hz4 (below_grown_nil hg5)
      have hz5 := hb5.size
      clear hg5 hat5 hown1 hb4 hz4
      refine (G2.out w5 ((hrm.below hb5).more hz5)).mono ?_
      rintro e' w6 ⟨A6, c6, rfl, hown6, hb6⟩
      have hz6 := hb6.size
      have hown5' := ownsRow_chg hown5 (Chg.of_below hb6 (F := fun _ => False)) (fun _ _ h => h)
      have hb6' := below_call hb5 hz5 hb6
      obtain ⟨L, hL⟩ : ∃ L, L = L1 ++ L2 := ⟨_, rfl⟩
      have hLn : L1.length + L2.length = L.length := by rw [hL, List.length_append]
      have hLs : ∀ v ∈ L, v.s.size ≤ 100 := fun v hv => by
        rw [hL] at hv
        rcases List.mem_append.1 hv with h | h
        · exact hv1 v h
        · exact hv2 v h
      have hJ' := hJ.out
      rw [← hL] at hJ'
      have hvc : vcells L1 ++ vcells L2 = vcells L := by rw [hL, vcells_append]
      replace hL := Lib.hid hL
      clear hown5 G2
      go_wp2_with (at_builtin; refine wpList_append_sl _ rfl (.tmp 54) (.tmp 56) 49 rfl wr.heap.size 60 i0 _ 6 56 Try.underlying49 hi0 hz0 hz1 hz2 rfl (by decide) (.slice A5 L1.length c5) L1.length (vcells L1) rfl hown5' w6.heap.size A6 L2.length c6 (vcells L2) rfl (Reads.of_own hown6) (vcells_one _) (by unfold maxLen; omega) (by omega) (by omega) ?_; intro A7 c7 w7 hown7 hg7 hat7; simp only [hLn, hvc] at hown7 hg7 hat7 ⊢)
      have hb7 : Below wr.heap.size wr w7 := hb6'.grown hg7 (by omega) (fun j hj => (hown5'.lt _ hj).1)
      have hz7 := hb7.size
      have hall := Reads.of_own hown7
      have hB7 := hBr.below hb7 hBr.lt
      have hbB := below_call hbA hzA hb7
      have hLl : L.length ≤ 60 := by omega
      clear hown7 hg7 hat7 hown6 hown5' hb6 hb6' hb5 hb7 hBr hbA hrl hrm hLn hvc hv1 hv2 hi0 hz0 hz1 hz2 hz5 hz6 hlt hlti hn1 hn2
      have hrs := J_rs hJ'
      obtain ⟨j1, j2, j3, j4⟩ := hJ'
      obtain ⟨G, hG⟩ : ∃ G, G = gTo (RC L) 16 := ⟨_, rfl⟩
      have hGl := gTo_len (RC L) 16
      have RR := fun W h => refreasons A7 c7 L W h (by omega)
      have RZ := reasons_any g1 F w7 hB7
      rw [hrs] at RZ
      rw [← hG] at RR RZ hGl
      have FF := reffirsts A7 c7 L w7 hall (by omega) hLs
      have KK := fun W h => refkind A7 c7 L k W h (by omega)
      have EE := fun W h => refreason A7 c7 L e W h (by omega)
      have hK := j1 k
      have hE := j2 e
      unfold RC at hE
      obtain ⟨y1, hy1⟩ : ∃ y, cnt (fun v => v.k == k) L = y := ⟨_, rfl⟩
      obtain ⟨y2, hy2⟩ : ∃ y, cnt (fun v => v.e == e) L = y := ⟨_, rfl⟩
      obtain ⟨y3, hy3⟩ : ∃ y, cnt (fun v => v.f) L = y := ⟨_, rfl⟩
      obtain ⟨y4, hy4⟩ : ∃ y, bcnt L = y := ⟨_, rfl⟩
      rw [hy3, hy4] at FF
      rw [hy3] at j3
      rw [hy4] at j4
      rw [hy1] at hK KK
      rw [hy2] at hE EE
      clear hrs hG j1 j2 hLs hJ hL hy1 hy2 hy3 hy4
      replace RR := Lib.hid RR
      replace KK := Lib.hid KK
      replace EE := Lib.hid EE
      replace RZ := Lib.hid RZ
      replace hK := Lib.hid hK
      replace hE := Lib.hid hE
      replace j3 := Lib.hid j3
      replace j4 := Lib.hid j4
      go_wp2_with fail
      refine FF.mono ?_
      rintro e' w' ⟨rfl, rfl⟩
      clear FF
      go_wp2_with fail
      refine RZ.out.mono ?_
      rintro e' w8 ⟨A8, c8, rfl, hown8, hb8⟩
      have hz8 := hb8.size
      have hB8 := hB7.below hb8 hB7.lt
      have hbC := below_call hbB hbB.size hb8
      have hall8 := (hall.below hb8).more hz8
      have hrr := Reads.of_own hown8
      clear RZ hown8 hb8 hB7 hbB hall hz7 hzA
      go_wp2_with fail
      obtain ⟨i1, hi1, hy0, hy1, hy2⟩ := info_parts info_int
      have hself : sameL G G = true := by simp [sameL]
      have hGl2 : G.length ≤ 16 := hGl
      clear hl30 hm30 hi
      go_loopw [15, 16] (fun s i wr => ∃ (n : Nat) (A' : Option Addr) (c' : Nat), n ≤ G.length ∧ i = .int .i64 (n : Nat) ∧ s = .slice A' n c' ∧ wr.ownsRow w8.heap.size 3 1 (.slice A' n c') n ((G.take n).map (.int .i64)) ∧ Below w8.heap.size w8 wr) (fun _ i _ => G.length - (intOf i).toNat)
      case atStart => exact ⟨0, none, 0, by omega, rfl, rfl, World.ownsRow_nil _ _ _ _, Below.refl _ _⟩
      case round =>
        obtain ⟨n, A', c', hn, rfl, rfl, hown, hbw⟩ := hrel
        have hzw := hbw.size
        by_cases hlt : n < G.length
        · have hlti : (n : Int) < (G.length : Int) := by omega
          obtain ⟨ad, rfl, had, hc⟩ := (hrr.below hbw).int_at hlt
          obtain ⟨x, hx⟩ : ∃ x, x = G.getD n 0 := ⟨_, rfl⟩
          rw [← hx] at hc
          have hown1 := hown.alloc (.cells #[.int .i64 x] 3)
          have e1 : (G.take (n + 1)) = G.take n ++ [x] := by
            rw [List.take_add_one, List.getElem?_eq_getElem hlt, hx, List.getD_eq_getElem?_getD, List.getElem?_eq_getElem hlt]; rfl
          replace e1 := Lib.hid e1
          clear hx hrr hall8 hB8 hself
          go_wp2_with (at_builtin; refine wpList_append_sl _ rfl (.tmp 71) (.tmp 76) 22 rfl w8.heap.size 3 i1 _ 1 8 Try.underlying22 hi1 hy0 hy1 hy2 rfl (by decide) (.slice A' n c') n ((G.take n).map (.int .i64)) rfl hown1 (wr.heap.size + 1) (some ⟨wr.heap.size, 0, none⟩) 1 1 [.int .i64 x] rfl (reads_lit1 _ _ _ _ _ (by simp) (by simp)) (by simp [Value.oneCell']) (by unfold maxLen; omega) (by omega) (by simp; omega) ?_; intro A1 cp1 w9 hown2 hg1 hat1)
          have hz9 := hg1.size
          rw [World.size_alloc] at hz9
          go_roundw
          case rel =>
            have hb2 : Below w8.heap.size w8 w9 := ((hbw.alloc (by omega) _).grown hg1 (by simp; omega) (fun j hj => by have := (hown.lt _ hj).1; omega))
            exact ⟨n + 1, A1, cp1, by omega, by go_num, by simp, by rw [e1.out, List.map_append]; exact hown2, hb2⟩
          case measure => simp [intOf]; omega
        · have hlti : ¬ (n : Int) < (G.length : Int) := by omega
          obtain rfl : n = G.length := by omega
          rw [List.take_length] at hown
          have hT := Reads.of_own hown
          have hB9 := hB8.below hbw hB8.lt
          have hall9 := (hall8.below hbw).more hzw
          have hbD := below_call hbC hbC.size hbw
          have t1 : ((y1 : Int) == (y1 : Int)) = true := by simp
          have t2 : ((y2 : Int) == (y2 : Int)) = true := by simp
          have t3 : ((y3 : Int) == (y3 : Int)) = true := by simp
          have t4 : ((y4 : Int) == (y4 : Int)) = true := by simp
          clear hown hbw hrr hall8 hB8 hzw hbC
          go_wp2_with (first
            | (go_at_call 53; refine (kindK g1 F k _ hB9).mono ?_; rintro e' w' ⟨rfl, rfl⟩; rw [hK.out])
            | (go_at_call 54; refine (KK.out _ hall9).mono ?_; rintro e' w' ⟨rfl, rfl⟩)
            | (go_at_call 55; refine (reasonS g1 F e (y2 : Int) _ hB9 hE.out).mono ?_; rintro e' w' ⟨rfl, rfl⟩)
            | (go_at_call 56; refine (EE.out _ hall9).mono ?_; rintro e' w' ⟨rfl, rfl⟩)
            | (go_at_call 57; refine (firsts_any g1 F _ hB9).mono ?_; rintro e' w' ⟨rfl, rfl⟩; rw [j3.out])
            | (go_at_call 58; refine (bytes_any g1 F _ hB9).mono ?_; rintro e' w' ⟨rfl, rfl⟩; rw [j4.out]))
          refine (RR.out _ hall9).mono ?_
          rintro e' w9 ⟨A9, c9, rfl, hown9, hb9⟩
          have hT9 := (hT.below hb9).more hb9.size
          have hR9 := Reads.of_own hown9
          have hbE := below_call hbD hbD.size hb9
          clear hown9 hb9 hT hall9 hB9 hbD RR KK EE hK hE j3 j4
          go_wp2_with fail
          refine (sameInts_any A' A9 c' c9 G G w9 w9.heap.size hT9 hR9 (by omega) (by omega)).mono ?_
          rintro e' w10 ⟨rfl, m6, rfl⟩
          rw [hself]
          have hbF := below_drewN hbE m6
          generalize w9.drewN m6 = w10 at *
          clear hT9 hR9 hbE
          go_wp2_with fail
          refine (name_any e w10).mono ?_
          rintro e' w11 ⟨rfl, hb11⟩
          have hbG := below_call hbF hbF.size hb11
          clear hbF hb11
          go_wp2_with fail
          refine (refname_any e w11).mono ?_
          rintro e' w12 ⟨rfl, hb12⟩
          have hbH := below_call hbG hbG.size hb12
          clear hbG hb12
          obtain ⟨nm, hnm⟩ : ∃ s, s = vName e := ⟨_, rfl⟩
          rw [← hnm]
          clear hnm
          go_wp2_with fail
          refine (awake31 w12).mono ?_
          rintro e' w13 ⟨rfl, hb13⟩
          have hbI := below_call hbH hbH.size hb13
          go_wp2_with fail
          go_ret
          exact ⟨rfl, hbI⟩
end Go.Proofs.Ytdkcjfcjckpjcaa
