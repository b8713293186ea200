/- maglev: the law MaglevIDs, called. -/
import Derived.Test.YtiicgnijiiidcaaMagN
import Derived.Test.YtiicgnijiiidcaaEligB
namespace Go.Proofs.Ytiicgnijiiidcaa
open Go Go.RowKit Go.Deep

set_option maxRecDepth 100000 in
set_option maxHeartbeats 8000000 in
theorem maglevIDs_false (l : List Bk) (A : Option Addr) (c : Nat) (ka kb : Int) (wt : Int) (ver : Int) (t : Tup) (w : World) (hr : Reads w w.heap.size 6 A l.length (l.flatMap Bk.cells)) (hl : l.length ≤ 9223372036854775807) (hwt : 0 ≤ wt ∧ wt < 65536) :
    Calls Try.prog 8 #[.slice A l.length c, .agg #[.int .u64 ka, .int .u64 kb], .bool false, .int .u16 wt, .int .i64 ver, t.val] w fun e w' => e = .returned (.bool true) ∧ Below w.heap.size w w' := by
  obtain ⟨w0, hw0⟩ : ∃ w0, w0 = (w.alloc (.cells #[.int .u64 ka, .int .u64 kb] 25)).alloc (.cells t.cells.toArray 50) := ⟨_, rfl⟩
  have hb0 : Below w.heap.size w w0 := hw0 ▸ below_alloc (below_alloc (Below.refl _ _) _) _
  have hr0 : Reads w0 w0.heap.size 6 A l.length (l.flatMap Bk.cells) := (hr.below hb0).more hb0.size
  have R := Lib.hid (ref24_right l A c _ hr0 hl)
  have K0 : Blk w0 w.heap.size 25 #[.int .u64 ka, .int .u64 kb] := hw0 ▸ (Blk.new w _ _).alloc _
  have T0 : Blk w0 (w.heap.size + 1) 50 t.cells.toArray := by
    have := Blk.new (w.alloc (.cells #[.int .u64 ka, .int .u64 kb] 25)) 50 t.cells.toArray
    rw [← hw0] at this
    simpa using this
  by_cases h13 : 13 < l.length
  · have e13 : decide ((13 : Int) < (l.length : Int)) = true := by simp; omega
    clear R hr0 K0 T0
    obtain ⟨tp, v, hi, lo, v', hi', lo', sp, dp⟩ := t
    unfold Tup.val at *
    dsimp only at *
    go_enter Try.func8, Try.ntmps8
    go_wp2_with fail
    rw [← hw0]
    clear hw0
    refine (awake29 _).mono ?_
    rintro e w1 ⟨rfl, hb1⟩
    go_wp2_with fail
    go_ret
    exact ⟨rfl, below_chain hb1 hb0⟩
  have e13 : decide ((13 : Int) < (l.length : Int)) = false := by simp; omega
  by_cases h0 : l.length = 0
  · have e0 : ((l.length : Int) == 0) = true := by rw [h0]; rfl
    clear R hr0 K0 T0
    replace h0 := Lib.hid h0
    obtain ⟨tp, v, hi, lo, v', hi', lo', sp, dp⟩ := t
    unfold Tup.val at *
    dsimp only at *
    go_enter Try.func8, Try.ntmps8
    go_wp2_with fail
    rw [← hw0]
    clear hw0
    refine (awake29 _).mono ?_
    rintro e w1 ⟨rfl, hb1⟩
    go_wp2_with fail
    go_ret
    exact ⟨rfl, below_chain hb1 hb0⟩
  have e0 : ((l.length : Int) == 0) = false := by rw [beq_eq_false_iff_ne]; omega
  have N1 := fun (ver : Int) (o : List Bk) (A : Option Addr) (c : Nat) W hr (h : o.length = l.length) hi => new_some ver o A c ka kb 13 W hr (by omega) (by omega) (by omega) hi
  have PK := fun g W T h h1 h2 => pick_any (w := W) (g := g) (ka := ka) (kb := kb) (pl := T) t h h1 h2
  replace N1 := Lib.hid N1
  obtain ⟨tc, htc⟩ : ∃ tc, t.cells.toArray = tc := ⟨_, rfl⟩
  have PM := fun T h1 h2 => pickI_mem ka kb T t h1 h2
  generalize hpi : (fun T => pickI ka kb T t) = pI at *
  have PK' : ∀ (g : Nat) (W : World) (T : List Int), TabAt W g ka kb T → 0 < T.length → T.length ≤ 65536 → Calls Try.prog 29 #[.pointer (some ⟨g, 0, none⟩), t.val] W fun e w' => e = .returned (.tuple #[.int .i64 (pI T), .bool true]) ∧ Below W.heap.size W w' := by
    intro g W T h h1 h2; rw [← hpi]; exact PK g W T h h1 h2
  have PM' : ∀ T : List Int, 0 < T.length → T.length ≤ 65536 → pI T ∈ T := by
    intro T h1 h2; rw [← hpi]; exact PM T h1 h2
  clear PK PM hpi htc
  obtain ⟨tp, v, hi, lo, v', hi', lo', sp, dp⟩ := t
  unfold Tup.val at *
  dsimp only at *
  replace PK' := Lib.hid PK'
  replace PM' := Lib.hid PM'
  go_enter Try.func8, Try.ntmps8
  go_wp2_with fail
  rw [← hw0]
  clear hw0
  refine R.out.mono ?_
  rintro e w00 ⟨r, n0, rfl, rfl, hR⟩
  have hb1 : Below w.heap.size w (w0.drewN n0) := below_drewN hb0 n0
  have K1 : Blk (w0.drewN n0) w.heap.size 25 #[.int .u64 ka, .int .u64 kb] := K0
  have T1 : Blk (w0.drewN n0) (w.heap.size + 1) 50 _ := T0
  have hr1 : Reads (w0.drewN n0) (w0.drewN n0).heap.size 6 A l.length (l.flatMap Bk.cells) := hr0
  generalize w0.drewN n0 = w1 at *
  clear R hr0 K0 hb0 T0
  cases r
  · clear hR
    go_wp2_with (go_at_call 26; (with_reducible refine (awake29 _).mono ?_); rintro e w2 ⟨rfl, hb2⟩)
    go_ret
    exact ⟨rfl, below_chain hb2 hb1⟩
  have hL := hR (by trivial)
  clear hR
  have hids := bkRight_ids hL
  have hTL := tableOf_len (ka := ka) (kb := kb) (m := 13) (by omega) (l := l.map Bk.id) (by rw [List.length_map]; omega) (bkRight_ne hL)
  have hTM := fun x => tableOf_mem (ka := ka) (kb := kb) (m := 13) (by omega) (l := l.map Bk.id) (by rw [List.length_map]; omega) (bkRight_ne hL) (x := x)
  replace hL := Lib.hid hL
  replace hids := Lib.hid hids
  replace hTL := Lib.hid hTL
  replace hTM := Lib.hid hTM
  have hwt1 := hwt.1
  have hwt2 := hwt.2
  go_wp2_with fail
  go_loopw [14, 15] (fun s i wr => ∃ (k : Nat) (o : List Bk) (P : Option Addr) (p : Nat), k ≤ l.length ∧ i = .int .i64 (k : Nat) ∧ s = .slice P o.length p ∧ Hid (o.map Bk.id = (l.take k).map Bk.id ∧ o.length = k) ∧ OwnB wr w.heap.size P p o ∧ Blk wr w.heap.size 25 #[.int .u64 ka, .int .u64 kb] ∧ Blk wr (w.heap.size + 1) 50 #[.int .i64 tp, .bool v, .int .u64 hi, .int .u64 lo, .bool v', .int .u64 hi', .int .u64 lo', .int .i64 sp, .int .i64 dp] ∧ ¬ InB P w.heap.size ∧ ¬ InB P (w.heap.size + 1) ∧ Below w.heap.size w wr) (fun _ i _ => l.length - (intOf i).toNat)
  case atStart => exact ⟨0, [], none, 0, by omega, rfl, rfl, Lib.hid (by simp), OwnA.nil _ _, K1, T1, (fun h => by obtain ⟨a, ha, _⟩ := h; cases ha), (fun h => by obtain ⟨a, ha, _⟩ := h; cases ha), hb1⟩
  case round =>
    obtain ⟨k, o, P, p, hk, rfl, rfl, hO1, hO, hK, hT, hnP, hnQ, hb⟩ := hrel
    clear K1 T1 hb1
    have hzB := hb.size
    have hol : o.length ≤ 1000000 := by have := hO1.out.2; omega
    by_cases hlt : k < l.length
    · have hlti : (k : Int) < (l.length : Int) := by omega
      obtain ⟨ad, b, rfl, hbl, hbk, c0, -⟩ := bk_at (hr.below hb) hlt
      obtain ⟨bi, bw, bs, bv, bh, bo⟩ := b
      dsimp only at *
      have hst : (l.take (k + 1)).map Bk.id = (l.take k).map Bk.id ++ [bi] := by
        obtain ⟨hk', hbe⟩ := List.getElem?_eq_some_iff.1 hbk
        rw [List.take_succ_eq_append_getElem hk', List.map_append, hbe]; rfl
      replace hst := Lib.hid hst
      clear hbk
      go_wp2_with (at_builtin; (refine wpList_push_bk rfl (.tmp 45) (.tmp 62) rfl w.heap.size P p o ⟨bi, _, _, _, _, _⟩ o.length rfl rfl hO _ (by simp) rfl rfl hol hzB ?_; intro P1 p1 w3 ho1 hp1))
      have hb3 := hp1.below hb (by omega) (fun b hb => (hO.block hb).1)
      have hlen : o.length + 1 = k + 1 := by rw [hO1.out.2]
      go_roundw
      case rel => exact ⟨k + 1, _, P1, p1, by omega, by go_num, by simp, Lib.hid ⟨by rw [hst.out, List.map_append, hO1.out.1]; rfl, by simpa using hlen⟩, ho1, hK.chg hp1.chg hnP, hT.chg hp1.chg hnQ, (fun hi => by rcases hp1.new _ hi with hi | hi; exact hnP hi; have := hK.lt; omega), (fun hi => by rcases hp1.new _ hi with hi | hi; exact hnQ hi; have := hT.lt; omega), hb3⟩
      case measure => simp [intOf]; omega
    · obtain rfl : k = l.length := by omega
      have hlti : ¬ (l.length : Int) < (l.length : Int) := by omega
      have hoid := hO1.out.1
      rw [List.take_length] at hoid
      have hon := hO1.out.2
      have hro := hO.reads
      have hrl := (hr.below hb).more hzB
      have k0 := hK.cell 0
      have k1 := hK.cell 1
      simp at k0 k1
      replace hon := Lib.hid hon
      replace hoid := Lib.hid hoid
      clear hO1
      go_wp2_with fail
      refine (N1.out 0 l A c _ hrl rfl hids.out).mono ?_
      rintro e w2 ⟨g1, rfl, hT1, -, hb2⟩
      have hbA := below_chain hb2 hb
      have hro2 := (hro.below hb2).more hb2.size
      have hK2 := hK.call hb2
      have hTt2 := hT.call hb2
      have hrl2 := (hrl.below hb2).more hb2.size
      clear hb2 hb hro hK hT hrl k0 k1 hO
      have k0 := hK2.cell 0
      have k1 := hK2.cell 1
      simp at k0 k1
      go_wp2_with fail
      refine (N1.out ver o P p _ hro2 hon.out (fun b hb => by
        have : b.id ∈ l.map Bk.id := by rw [← hoid.out]; exact List.mem_map.2 ⟨b, hb, rfl⟩
        obtain ⟨b', hb', he⟩ := List.mem_map.1 this
        rw [← he]; exact hids.out b' hb')).mono ?_
      rintro e w3 ⟨g2, rfl, hT2, -, hb3⟩
      rw [hoid.out] at hT2
      have hTL' := hTL.out
      have hTM' := hTM.out
      generalize tableOf ka kb 13 (l.map Bk.id) = T at *
      have hbB := below_chain hb3 hbA
      have hT13 := hT1.keep hb3
      have hK3 := hK2.call hb3
      have hTt3 := hTt2.call hb3
      have hrl3 := (hrl2.below hb3).more hb3.size
      clear hb3 hbA hro2 hK2 hTt2 hrl2 k0 k1 hT1
      have hTl1 : 0 < T.length := by omega
      have hTl2 : T.length ≤ 65536 := by omega
      have hhas := hasB_mem (hTM' _ (PM'.out T hTl1 hTl2))
      have PP := fun g W h => PK'.out g W T h hTl1 hTl2
      have PL := fun g W h => places_any (w := W) (g := g) (ka := ka) (kb := kb) (pl := T) h hTl1 hTl2
      have MV := fun W h h' => moved_any (w := W) (g := g1) (g2 := g2) (p := T) (q := T) (ka := ka) (kb := kb) (ka2 := ka) (kb2 := kb) h h' hTl1 hTl2 rfl
      rw [mvC_self] at MV
      have HS := fun W hr => ref24_has l A c (pI T) W hr (by omega)
      rw [hhas] at HS
      have SI := fun A B c d W N ha hb => sameInts_any A B c d T T W N ha hb (by omega) (by omega)
      have hsl : sameL T T = true := by unfold sameL; simp
      rw [hsl] at SI
      obtain ⟨x, hx⟩ : ∃ x, pI T = x := ⟨_, rfl⟩
      rw [hx] at PP HS
      replace PP := Lib.hid PP
      replace PL := Lib.hid PL
      replace MV := Lib.hid MV
      replace HS := Lib.hid HS
      replace SI := Lib.hid SI
      have c0 := hTt3.cell 0
      have c1 := hTt3.cell 1
      have c2 := hTt3.cell 2
      have c3 := hTt3.cell 3
      have c4 := hTt3.cell 4
      have c5 := hTt3.cell 5
      have c6 := hTt3.cell 6
      have c7 := hTt3.cell 7
      have c8 := hTt3.cell 8
      simp only [List.getElem?_toArray, List.getElem?_cons_zero, List.getElem?_cons_succ] at c0 c1 c2 c3 c4 c5 c6 c7 c8
      clear N1 PK' PM' hTL hTM hTL' hTM' hhas hx hsl hoid hids hL
      go_wp2_with fail
      refine (PP.out g1 _ hT13).mono ?_
      rintro e w4 ⟨rfl, hb4⟩
      have hbC := below_chain hb4 hbB
      have hT14 := hT13.keep hb4
      have hT24 := hT2.keep hb4
      have hTt4 := hTt3.call hb4
      have hrl4 := (hrl3.below hb4).more hb4.size
      clear hb4 hbB hT13 hT2 hTt3 hrl3 c0 c1 c2 c3 c4 c5 c6 c7 c8 hK3
      have c0 := hTt4.cell 0
      have c1 := hTt4.cell 1
      have c2 := hTt4.cell 2
      have c3 := hTt4.cell 3
      have c4 := hTt4.cell 4
      have c5 := hTt4.cell 5
      have c6 := hTt4.cell 6
      have c7 := hTt4.cell 7
      have c8 := hTt4.cell 8
      simp only [List.getElem?_toArray, List.getElem?_cons_zero, List.getElem?_cons_succ] at c0 c1 c2 c3 c4 c5 c6 c7 c8
      go_wp2_with fail
      refine (PP.out g2 _ hT24).mono ?_
      rintro e w5 ⟨rfl, hb5⟩
      have hbD := below_chain hb5 hbC
      have hT15 := hT14.keep hb5
      have hT25 := hT24.keep hb5
      have hrl5 := (hrl4.below hb5).more hb5.size
      clear hb5 hbC hT14 hT24 hTt4 hrl4 c0 c1 c2 c3 c4 c5 c6 c7 c8
      go_wp2_with fail
      refine (HS.out _ hrl5).mono ?_
      rintro e w6 ⟨rfl, rfl⟩
      go_wp2_with fail
      refine (MV.out _ hT15 hT25).mono ?_
      rintro e w7 ⟨rfl, hb7⟩
      have hbE := below_chain hb7 hbD
      have hT17 := hT15.keep hb7
      have hT27 := hT25.keep hb7
      clear hb7 hbD hT15 hT25 hrl5
      go_wp2_with fail
      refine (PL.out g1 _ hT17).mono ?_
      rintro e w8 ⟨A8, c8, rfl, hr8, hb8⟩
      have hbF := below_chain hb8 hbE
      have hT28 := hT27.keep hb8
      clear hb8 hbE hT17 hT27
      go_wp2_with fail
      refine (PL.out g2 _ hT28).mono ?_
      rintro e w9 ⟨A9, c9, rfl, hr9, hb9⟩
      have hbG := below_chain hb9 hbF
      have hr89 := (hr8.below hb9).more hb9.size
      clear hb9 hbF hT28 hr8
      go_wp2_with fail
      refine (SI.out _ _ _ _ _ w9.heap.size hr89 hr9).mono ?_
      rintro e w10 ⟨rfl, n10, rfl⟩
      have hbH := below_drewN hbG n10
      go_wp2_with fail
      refine (awake29 _).mono ?_
      rintro e w11 ⟨rfl, hb11⟩
      go_wp2_with fail
      go_ret
      exact ⟨rfl, below_chain hb11 hbH⟩

set_option maxRecDepth 100000 in
set_option maxHeartbeats 8000000 in
theorem maglevIDs_true (l : List Bk) (A : Option Addr) (c : Nat) (ka kb : Int) (wt : Int) (ver : Int) (t : Tup) (w : World) (hr : Reads w w.heap.size 6 A l.length (l.flatMap Bk.cells)) (hl : l.length ≤ 9223372036854775807) (hwt : 0 ≤ wt ∧ wt < 65536) :
    Calls Try.prog 8 #[.slice A l.length c, .agg #[.int .u64 ka, .int .u64 kb], .bool true, .int .u16 wt, .int .i64 ver, t.val] w fun e w' => e = .returned (.bool true) ∧ Below w.heap.size w w' := by
  obtain ⟨w0, hw0⟩ : ∃ w0, w0 = (w.alloc (.cells #[.int .u64 ka, .int .u64 kb] 25)).alloc (.cells t.cells.toArray 50) := ⟨_, rfl⟩
  have hb0 : Below w.heap.size w w0 := hw0 ▸ below_alloc (below_alloc (Below.refl _ _) _) _
  have hr0 : Reads w0 w0.heap.size 6 A l.length (l.flatMap Bk.cells) := (hr.below hb0).more hb0.size
  have R := Lib.hid (ref24_right l A c _ hr0 hl)
  have K0 : Blk w0 w.heap.size 25 #[.int .u64 ka, .int .u64 kb] := hw0 ▸ (Blk.new w _ _).alloc _
  have T0 : Blk w0 (w.heap.size + 1) 50 t.cells.toArray := by
    have := Blk.new (w.alloc (.cells #[.int .u64 ka, .int .u64 kb] 25)) 50 t.cells.toArray
    rw [← hw0] at this
    simpa using this
  by_cases h13 : 13 < l.length
  · have e13 : decide ((13 : Int) < (l.length : Int)) = true := by simp; omega
    clear R hr0 K0 T0
    obtain ⟨tp, v, hi, lo, v', hi', lo', sp, dp⟩ := t
    unfold Tup.val at *
    dsimp only at *
    go_enter Try.func8, Try.ntmps8
    go_wp2_with fail
    rw [← hw0]
    clear hw0
    refine (awake29 _).mono ?_
    rintro e w1 ⟨rfl, hb1⟩
    go_wp2_with fail
    go_ret
    exact ⟨rfl, below_chain hb1 hb0⟩
  have e13 : decide ((13 : Int) < (l.length : Int)) = false := by simp; omega
  by_cases h0 : l.length = 0
  · have e0 : ((l.length : Int) == 0) = true := by rw [h0]; rfl
    clear R hr0 K0 T0
    replace h0 := Lib.hid h0
    obtain ⟨tp, v, hi, lo, v', hi', lo', sp, dp⟩ := t
    unfold Tup.val at *
    dsimp only at *
    go_enter Try.func8, Try.ntmps8
    go_wp2_with fail
    rw [← hw0]
    clear hw0
    refine (awake29 _).mono ?_
    rintro e w1 ⟨rfl, hb1⟩
    go_wp2_with fail
    go_ret
    exact ⟨rfl, below_chain hb1 hb0⟩
  have e0 : ((l.length : Int) == 0) = false := by rw [beq_eq_false_iff_ne]; omega
  have N1 := fun (ver : Int) (o : List Bk) (A : Option Addr) (c : Nat) W hr (h : o.length = l.length) hi => new_some ver o A c ka kb 251 W hr (by omega) (by omega) (by omega) hi
  have PK := fun g W T h h1 h2 => pick_any (w := W) (g := g) (ka := ka) (kb := kb) (pl := T) t h h1 h2
  replace N1 := Lib.hid N1
  obtain ⟨tc, htc⟩ : ∃ tc, t.cells.toArray = tc := ⟨_, rfl⟩
  have PM := fun T h1 h2 => pickI_mem ka kb T t h1 h2
  generalize hpi : (fun T => pickI ka kb T t) = pI at *
  have PK' : ∀ (g : Nat) (W : World) (T : List Int), TabAt W g ka kb T → 0 < T.length → T.length ≤ 65536 → Calls Try.prog 29 #[.pointer (some ⟨g, 0, none⟩), t.val] W fun e w' => e = .returned (.tuple #[.int .i64 (pI T), .bool true]) ∧ Below W.heap.size W w' := by
    intro g W T h h1 h2; rw [← hpi]; exact PK g W T h h1 h2
  have PM' : ∀ T : List Int, 0 < T.length → T.length ≤ 65536 → pI T ∈ T := by
    intro T h1 h2; rw [← hpi]; exact PM T h1 h2
  clear PK PM hpi htc
  obtain ⟨tp, v, hi, lo, v', hi', lo', sp, dp⟩ := t
  unfold Tup.val at *
  dsimp only at *
  replace PK' := Lib.hid PK'
  replace PM' := Lib.hid PM'
  go_enter Try.func8, Try.ntmps8
  go_wp2_with fail
  rw [← hw0]
  clear hw0
  refine R.out.mono ?_
  rintro e w00 ⟨r, n0, rfl, rfl, hR⟩
  have hb1 : Below w.heap.size w (w0.drewN n0) := below_drewN hb0 n0
  have K1 : Blk (w0.drewN n0) w.heap.size 25 #[.int .u64 ka, .int .u64 kb] := K0
  have T1 : Blk (w0.drewN n0) (w.heap.size + 1) 50 _ := T0
  have hr1 : Reads (w0.drewN n0) (w0.drewN n0).heap.size 6 A l.length (l.flatMap Bk.cells) := hr0
  generalize w0.drewN n0 = w1 at *
  clear R hr0 K0 hb0 T0
  cases r
  · clear hR
    go_wp2_with (go_at_call 26; (with_reducible refine (awake29 _).mono ?_); rintro e w2 ⟨rfl, hb2⟩)
    go_ret
    exact ⟨rfl, below_chain hb2 hb1⟩
  have hL := hR (by trivial)
  clear hR
  have hids := bkRight_ids hL
  have hTL := tableOf_len (ka := ka) (kb := kb) (m := 251) (by omega) (l := l.map Bk.id) (by rw [List.length_map]; omega) (bkRight_ne hL)
  have hTM := fun x => tableOf_mem (ka := ka) (kb := kb) (m := 251) (by omega) (l := l.map Bk.id) (by rw [List.length_map]; omega) (bkRight_ne hL) (x := x)
  replace hL := Lib.hid hL
  replace hids := Lib.hid hids
  replace hTL := Lib.hid hTL
  replace hTM := Lib.hid hTM
  have hwt1 := hwt.1
  have hwt2 := hwt.2
  go_wp2_with fail
  go_loopw [14, 15] (fun s i wr => ∃ (k : Nat) (o : List Bk) (P : Option Addr) (p : Nat), k ≤ l.length ∧ i = .int .i64 (k : Nat) ∧ s = .slice P o.length p ∧ Hid (o.map Bk.id = (l.take k).map Bk.id ∧ o.length = k) ∧ OwnB wr w.heap.size P p o ∧ Blk wr w.heap.size 25 #[.int .u64 ka, .int .u64 kb] ∧ Blk wr (w.heap.size + 1) 50 #[.int .i64 tp, .bool v, .int .u64 hi, .int .u64 lo, .bool v', .int .u64 hi', .int .u64 lo', .int .i64 sp, .int .i64 dp] ∧ ¬ InB P w.heap.size ∧ ¬ InB P (w.heap.size + 1) ∧ Below w.heap.size w wr) (fun _ i _ => l.length - (intOf i).toNat)
  case atStart => exact ⟨0, [], none, 0, by omega, rfl, rfl, Lib.hid (by simp), OwnA.nil _ _, K1, T1, (fun h => by obtain ⟨a, ha, _⟩ := h; cases ha), (fun h => by obtain ⟨a, ha, _⟩ := h; cases ha), hb1⟩
  case round =>
    obtain ⟨k, o, P, p, hk, rfl, rfl, hO1, hO, hK, hT, hnP, hnQ, hb⟩ := hrel
    clear K1 T1 hb1
    have hzB := hb.size
    have hol : o.length ≤ 1000000 := by have := hO1.out.2; omega
    by_cases hlt : k < l.length
    · have hlti : (k : Int) < (l.length : Int) := by omega
      obtain ⟨ad, b, rfl, hbl, hbk, c0, -⟩ := bk_at (hr.below hb) hlt
      obtain ⟨bi, bw, bs, bv, bh, bo⟩ := b
      dsimp only at *
      have hst : (l.take (k + 1)).map Bk.id = (l.take k).map Bk.id ++ [bi] := by
        obtain ⟨hk', hbe⟩ := List.getElem?_eq_some_iff.1 hbk
        rw [List.take_succ_eq_append_getElem hk', List.map_append, hbe]; rfl
      replace hst := Lib.hid hst
      clear hbk
      go_wp2_with (at_builtin; (refine wpList_push_bk rfl (.tmp 45) (.tmp 62) rfl w.heap.size P p o ⟨bi, _, _, _, _, _⟩ o.length rfl rfl hO _ (by simp) rfl rfl hol hzB ?_; intro P1 p1 w3 ho1 hp1))
      have hb3 := hp1.below hb (by omega) (fun b hb => (hO.block hb).1)
      have hlen : o.length + 1 = k + 1 := by rw [hO1.out.2]
      go_roundw
      case rel => exact ⟨k + 1, _, P1, p1, by omega, by go_num, by simp, Lib.hid ⟨by rw [hst.out, List.map_append, hO1.out.1]; rfl, by simpa using hlen⟩, ho1, hK.chg hp1.chg hnP, hT.chg hp1.chg hnQ, (fun hi => by rcases hp1.new _ hi with hi | hi; exact hnP hi; have := hK.lt; omega), (fun hi => by rcases hp1.new _ hi with hi | hi; exact hnQ hi; have := hT.lt; omega), hb3⟩
      case measure => simp [intOf]; omega
    · obtain rfl : k = l.length := by omega
      have hlti : ¬ (l.length : Int) < (l.length : Int) := by omega
      have hoid := hO1.out.1
      rw [List.take_length] at hoid
      have hon := hO1.out.2
      have hro := hO.reads
      have hrl := (hr.below hb).more hzB
      have k0 := hK.cell 0
      have k1 := hK.cell 1
      simp at k0 k1
      replace hon := Lib.hid hon
      replace hoid := Lib.hid hoid
      clear hO1
      go_wp2_with fail
      refine (N1.out 0 l A c _ hrl rfl hids.out).mono ?_
      rintro e w2 ⟨g1, rfl, hT1, -, hb2⟩
      have hbA := below_chain hb2 hb
      have hro2 := (hro.below hb2).more hb2.size
      have hK2 := hK.call hb2
      have hTt2 := hT.call hb2
      have hrl2 := (hrl.below hb2).more hb2.size
      clear hb2 hb hro hK hT hrl k0 k1 hO
      have k0 := hK2.cell 0
      have k1 := hK2.cell 1
      simp at k0 k1
      go_wp2_with fail
      refine (N1.out ver o P p _ hro2 hon.out (fun b hb => by
        have : b.id ∈ l.map Bk.id := by rw [← hoid.out]; exact List.mem_map.2 ⟨b, hb, rfl⟩
        obtain ⟨b', hb', he⟩ := List.mem_map.1 this
        rw [← he]; exact hids.out b' hb')).mono ?_
      rintro e w3 ⟨g2, rfl, hT2, -, hb3⟩
      rw [hoid.out] at hT2
      have hTL' := hTL.out
      have hTM' := hTM.out
      generalize tableOf ka kb 251 (l.map Bk.id) = T at *
      have hbB := below_chain hb3 hbA
      have hT13 := hT1.keep hb3
      have hK3 := hK2.call hb3
      have hTt3 := hTt2.call hb3
      have hrl3 := (hrl2.below hb3).more hb3.size
      clear hb3 hbA hro2 hK2 hTt2 hrl2 k0 k1 hT1
      have hTl1 : 0 < T.length := by omega
      have hTl2 : T.length ≤ 65536 := by omega
      have hhas := hasB_mem (hTM' _ (PM'.out T hTl1 hTl2))
      have PP := fun g W h => PK'.out g W T h hTl1 hTl2
      have PL := fun g W h => places_any (w := W) (g := g) (ka := ka) (kb := kb) (pl := T) h hTl1 hTl2
      have MV := fun W h h' => moved_any (w := W) (g := g1) (g2 := g2) (p := T) (q := T) (ka := ka) (kb := kb) (ka2 := ka) (kb2 := kb) h h' hTl1 hTl2 rfl
      rw [mvC_self] at MV
      have HS := fun W hr => ref24_has l A c (pI T) W hr (by omega)
      rw [hhas] at HS
      have SI := fun A B c d W N ha hb => sameInts_any A B c d T T W N ha hb (by omega) (by omega)
      have hsl : sameL T T = true := by unfold sameL; simp
      rw [hsl] at SI
      obtain ⟨x, hx⟩ : ∃ x, pI T = x := ⟨_, rfl⟩
      rw [hx] at PP HS
      replace PP := Lib.hid PP
      replace PL := Lib.hid PL
      replace MV := Lib.hid MV
      replace HS := Lib.hid HS
      replace SI := Lib.hid SI
      have c0 := hTt3.cell 0
      have c1 := hTt3.cell 1
      have c2 := hTt3.cell 2
      have c3 := hTt3.cell 3
      have c4 := hTt3.cell 4
      have c5 := hTt3.cell 5
      have c6 := hTt3.cell 6
      have c7 := hTt3.cell 7
      have c8 := hTt3.cell 8
      simp only [List.getElem?_toArray, List.getElem?_cons_zero, List.getElem?_cons_succ] at c0 c1 c2 c3 c4 c5 c6 c7 c8
      clear N1 PK' PM' hTL hTM hTL' hTM' hhas hx hsl hoid hids hL
      go_wp2_with fail
      refine (PP.out g1 _ hT13).mono ?_
      rintro e w4 ⟨rfl, hb4⟩
      have hbC := below_chain hb4 hbB
      have hT14 := hT13.keep hb4
      have hT24 := hT2.keep hb4
      have hTt4 := hTt3.call hb4
      have hrl4 := (hrl3.below hb4).more hb4.size
      clear hb4 hbB hT13 hT2 hTt3 hrl3 c0 c1 c2 c3 c4 c5 c6 c7 c8 hK3
      have c0 := hTt4.cell 0
      have c1 := hTt4.cell 1
      have c2 := hTt4.cell 2
      have c3 := hTt4.cell 3
      have c4 := hTt4.cell 4
      have c5 := hTt4.cell 5
      have c6 := hTt4.cell 6
      have c7 := hTt4.cell 7
      have c8 := hTt4.cell 8
      simp only [List.getElem?_toArray, List.getElem?_cons_zero, List.getElem?_cons_succ] at c0 c1 c2 c3 c4 c5 c6 c7 c8
      go_wp2_with fail
      refine (PP.out g2 _ hT24).mono ?_
      rintro e w5 ⟨rfl, hb5⟩
      have hbD := below_chain hb5 hbC
      have hT15 := hT14.keep hb5
      have hT25 := hT24.keep hb5
      have hrl5 := (hrl4.below hb5).more hb5.size
      clear hb5 hbC hT14 hT24 hTt4 hrl4 c0 c1 c2 c3 c4 c5 c6 c7 c8
      go_wp2_with fail
      refine (HS.out _ hrl5).mono ?_
      rintro e w6 ⟨rfl, rfl⟩
      go_wp2_with fail
      refine (MV.out _ hT15 hT25).mono ?_
      rintro e w7 ⟨rfl, hb7⟩
      have hbE := below_chain hb7 hbD
      have hT17 := hT15.keep hb7
      have hT27 := hT25.keep hb7
      clear hb7 hbD hT15 hT25 hrl5
      go_wp2_with fail
      refine (PL.out g1 _ hT17).mono ?_
      rintro e w8 ⟨A8, c8, rfl, hr8, hb8⟩
      have hbF := below_chain hb8 hbE
      have hT28 := hT27.keep hb8
      clear hb8 hbE hT17 hT27
      go_wp2_with fail
      refine (PL.out g2 _ hT28).mono ?_
      rintro e w9 ⟨A9, c9, rfl, hr9, hb9⟩
      have hbG := below_chain hb9 hbF
      have hr89 := (hr8.below hb9).more hb9.size
      clear hb9 hbF hT28 hr8
      go_wp2_with fail
      refine (SI.out _ _ _ _ _ w9.heap.size hr89 hr9).mono ?_
      rintro e w10 ⟨rfl, n10, rfl⟩
      have hbH := below_drewN hbG n10
      go_wp2_with fail
      refine (awake29 _).mono ?_
      rintro e w11 ⟨rfl, hb11⟩
      go_wp2_with fail
      go_ret
      exact ⟨rfl, below_chain hb11 hbH⟩
end Go.Proofs.Ytiicgnijiiidcaa
