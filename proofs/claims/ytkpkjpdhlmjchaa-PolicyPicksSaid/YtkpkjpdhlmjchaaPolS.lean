/- policy: the law PolicyPicks, called: a policy that may be. -/
import Derived.Test.YtkpkjpdhlmjchaaPolR
import Derived.Deep.CutRange
import Derived.Deep.CutBlock
namespace Go.Proofs.Ytkpkjpdhlmjchaa
open Go Go.RowKit Go.Deep

theorem pk_at15 {w : World} {B : Nat} {A : Option Addr} {l : List Pk} (h : Reads w B 15 A l.length (l.flatMap Pk.cells)) {k : Nat} (hk : k < l.length) :
    ∃ ad s, A = some ad ∧ ad.block < B ∧ l[k]? = some s ∧ (w.cell? (ad.add (k * 15)) = some (.int .i64 s.kd) ∧ w.cell? ⟨(ad.add (k * 15)).block, (ad.add (k * 15)).off + 1, none⟩ = some (.bool s.sec) ∧ w.cell? ⟨(ad.add (k * 15)).block, (ad.add (k * 15)).off + 2, none⟩ = some (.int .i64 s.tu.p) ∧
      w.cell? ⟨(ad.add (k * 15)).block, (ad.add (k * 15)).off + 3, none⟩ = some (.bool s.tu.v) ∧ w.cell? ⟨(ad.add (k * 15)).block, (ad.add (k * 15)).off + 4, none⟩ = some (.int .u64 s.tu.hi) ∧ w.cell? ⟨(ad.add (k * 15)).block, (ad.add (k * 15)).off + 5, none⟩ = some (.int .u64 s.tu.lo) ∧
      w.cell? ⟨(ad.add (k * 15)).block, (ad.add (k * 15)).off + 6, none⟩ = some (.bool s.tu.v') ∧ w.cell? ⟨(ad.add (k * 15)).block, (ad.add (k * 15)).off + 7, none⟩ = some (.int .u64 s.tu.hi') ∧ w.cell? ⟨(ad.add (k * 15)).block, (ad.add (k * 15)).off + 8, none⟩ = some (.int .u64 s.tu.lo') ∧
      w.cell? ⟨(ad.add (k * 15)).block, (ad.add (k * 15)).off + 9, none⟩ = some (.int .i64 s.tu.sp) ∧ w.cell? ⟨(ad.add (k * 15)).block, (ad.add (k * 15)).off + 10, none⟩ = some (.int .i64 s.tu.dp) ∧ w.cell? ⟨(ad.add (k * 15)).block, (ad.add (k * 15)).off + 11, none⟩ = some (.int .u64 s.a) ∧
      w.cell? ⟨(ad.add (k * 15)).block, (ad.add (k * 15)).off + 12, none⟩ = some (.int .u64 s.b) ∧ w.cell? ⟨(ad.add (k * 15)).block, (ad.add (k * 15)).off + 13, none⟩ = some (.int .i64 s.pk) ∧ w.cell? ⟨(ad.add (k * 15)).block, (ad.add (k * 15)).off + 14, none⟩ = some (.int .i64 s.ps)) := by
  obtain ⟨ad, s, e, hb, hs, hc⟩ := pk_at h hk
  exact ⟨ad, s, e, hb, hs, hc 0 _ rfl, hc 1 _ rfl, hc 2 _ rfl, hc 3 _ rfl, hc 4 _ rfl, hc 5 _ rfl, hc 6 _ rfl, hc 7 _ rfl, hc 8 _ rfl, hc 9 _ rfl, hc 10 _ rfl, hc 11 _ rfl, hc 12 _ rfl, hc 13 _ rfl, hc 14 _ rfl⟩
theorem below_of_eq {w w' : World} (h : w = w') : Below w.heap.size w w' := h ▸ Below.refl _ _
theorem pst_start {w w1 : World} {gc gn gx gl bl : Nat} {k s ka kb : Int} (hB : w.heap.size ≤ w1.heap.size) (h1 : w.heap.size ≤ gc) (h2 : w.heap.size ≤ gn) (hC : ChBlk w1 gc k s ka kb (.pointer (some ⟨gn, 0, none⟩)) (.pointer none) false 0) (hT : TurnAt w1 w.heap.size gn false 0 0 [])
    (h3 : w.heap.size ≤ gx) (hX : RChBlk w1 gx k s ka kb false 0 (.slice none 0 0) (.slice none 0 0) false 0 (.slice none 0 0)) (hL : LoadAt w1 gl bl []) (hb : w.heap.size ≤ bl) :
    PSt (w1.alloc (.cells #[.slice none 0 0, .slice none 0 0] 98)) w.heap.size gc gx gl bl w1.heap.size gx ka kb (setS k s) (setS k s) [] := by
  have hlt := hX.lt
  refine ⟨⟨gn, _, h2, h1, Blk.alloc hC _, hT.call (below_alloc (Below.refl _ _) _), (fun h => nomatch h)⟩, ⟨_, _, _, h3, Blk.alloc hX _, (fun h => nomatch h), (fun h => nomatch h)⟩, LoadAt.call hL (below_alloc (Below.refl _ _) _),
    ⟨none, 0, none, 0, Blk.new _ _ _, ⟨OwnA.nil _ _, OwnA.nil _ _, fun b h => by obtain ⟨a, ha, _⟩ := h; cases ha⟩, (fun h => by obtain ⟨a, ha, _⟩ := h; cases ha), (fun h => by obtain ⟨a, ha, _⟩ := h; cases ha)⟩, ⟨h3, by rw [World.size_alloc]; omega⟩, ⟨hb, hB, by rw [World.size_alloc]; omega⟩⟩
set_option maxRecDepth 100000 in
set_option maxHeartbeats 64000000 in
theorem policyPicks_ok (k s ka kb : Int) (la lb : List Bk) (Aa Ab : Option Addr) (ca cb : Nat) (v v' : Int) (ps : List Pk) (P : Option Addr) (pc : Nat) (w : World) (hp : polOk k s = true)
    (hra : Reads w w.heap.size 6 Aa la.length (la.flatMap Bk.cells)) (hla : la.length ≤ 9223372036854775807) (hrb : Reads w w.heap.size 6 Ab lb.length (lb.flatMap Bk.cells)) (hlb : lb.length ≤ 9223372036854775807)
    (hrp : Reads w w.heap.size 15 P ps.length (ps.flatMap Pk.cells)) (hpw : ∀ o ∈ ps, pkWf o) :
    Calls Try.prog 8 #[.agg #[.int .i64 k, .int .i64 s], .agg #[.int .u64 ka, .int .u64 kb], .slice Aa la.length ca, .slice Ab lb.length cb, .int .i64 v, .int .i64 v', .slice P ps.length pc] w fun e w' => e = .returned (.bool true) ∧ Below w.heap.size w w' := by
  obtain ⟨w0, hw0⟩ : ∃ w0, w0 = (w.alloc (.cells #[.int .i64 k, .int .i64 s] 80)).alloc (.cells #[.int .u64 ka, .int .u64 kb] 25) := ⟨_, rfl⟩
  have hb0 : Below w.heap.size w w0 := hw0 ▸ below_alloc (below_alloc (Below.refl _ _) _) _
  have P0 : Blk w0 w.heap.size 80 #[.int .i64 k, .int .i64 s] := hw0 ▸ (Blk.new w _ _).alloc _
  have K0 : Blk w0 (w.heap.size + 1) 25 #[.int .u64 ka, .int .u64 kb] := by
    have := Blk.new (w.alloc (.cells #[.int .i64 k, .int .i64 s] 80)) 25 #[.int .u64 ka, .int .u64 kb]
    rw [← hw0] at this
    simpa using this
  have RA := law30_right la Aa ca w0 ((hra.below hb0).more hb0.size) hla
  have RB := fun W (hb : Below w.heap.size w W) => law30_right lb Ab cb W ((hrb.below hb).more hb.size) hlb
  have RR := fun W => refpolright_any k s W
  have PR := fun W => polright_any k s W
  have NB := fun W => polnew_ok k s ka kb W hp
  have RN := fun W => refpolnew_ok k s ka kb W hp
  have hpok := Lib.hid hp
  rw [hp] at RR PR
  replace RA := Lib.hid RA
  replace RB := Lib.hid RB
  replace RR := Lib.hid RR
  replace PR := Lib.hid PR
  replace NB := Lib.hid NB
  replace RN := Lib.hid RN
  replace hra := Lib.hid hra
  replace hrb := Lib.hid hrb
  replace hrp := Lib.hid hrp
  replace hpw := Lib.hid hpw
  clear hp
  go_enter Try.func8, Try.ntmps8
  go_wp2_with fail
  rw [← hw0]
  clear hw0
  refine RA.out.mono ?_
  rintro e w1 ⟨ra, n1, rfl, rfl, hlA⟩
  replace hlA := Lib.hid hlA
  have hb1 := below_drewN hb0 n1
  have P1 : Blk (w0.drewN n1) w.heap.size 80 #[.int .i64 k, .int .i64 s] := P0
  have K1 : Blk (w0.drewN n1) (w.heap.size + 1) 25 #[.int .u64 ka, .int .u64 kb] := K0
  clear hb0 P0 K0 RA
  generalize w0.drewN n1 = w1 at *
  cases ra
  · go_wp2_with fail
    refine (awake30 _).mono ?_
    rintro e w2 ⟨rfl, hb2⟩
    have hb3 := below_chain hb2 hb1
    go_wp2_with fail
    go_ret
    exact ⟨rfl, hb3⟩
  go_wp2_with fail
  refine (RB.out _ hb1).mono ?_
  rintro e w2 ⟨rb, n2, rfl, rfl, hlB⟩
  replace hlB := Lib.hid hlB
  have hb2 := below_drewN hb1 n2
  have P2 : Blk (w1.drewN n2) w.heap.size 80 #[.int .i64 k, .int .i64 s] := P1
  have K2 : Blk (w1.drewN n2) (w.heap.size + 1) 25 #[.int .u64 ka, .int .u64 kb] := K1
  clear hb1 P1 K1 RB
  generalize w1.drewN n2 = w2 at *
  cases rb
  · go_wp2_with fail
    refine (awake30 _).mono ?_
    rintro e w3 ⟨rfl, hb3⟩
    have hb4 := below_chain hb3 hb2
    go_wp2_with fail
    go_ret
    exact ⟨rfl, hb4⟩
  by_cases hn : (30 : Int) < (ps.length : Int)
  · have hd : decide ((30 : Int) < (ps.length : Int)) = true := by simpa using hn
    go_wp2_with fail
    refine (awake30 _).mono ?_
    rintro e w3 ⟨rfl, hb3⟩
    have hb4 := below_chain hb3 hb2
    go_wp2_with fail
    go_ret
    exact ⟨rfl, hb4⟩
  have hd : decide ((30 : Int) < (ps.length : Int)) = false := by simpa using hn
  have p0 := P2.cell 0
  have p1 := P2.cell 1
  simp only [List.getElem?_toArray, List.getElem?_cons_zero, List.getElem?_cons_succ] at p0 p1
  go_wp2_with fail
  refine (RR.out _).mono ?_
  rintro e w3 ⟨rfl, hb3⟩
  have P3 := P2.call hb3
  have K3 := K2.call hb3
  have hb4 := below_chain hb3 hb2
  clear P2 K2 p0 p1 hb2 hb3
  have p0 := P3.cell 0
  have p1 := P3.cell 1
  have k0 := K3.cell 0
  have k1 := K3.cell 1
  simp only [List.getElem?_toArray, List.getElem?_cons_zero, List.getElem?_cons_succ] at p0 p1 k0 k1
  have HA := hlA.out trivial
  have HB := hlB.out trivial
  replace HA := Lib.hid HA
  replace HB := Lib.hid HB
  clear hlA hlB
  by_cases h251 : 251 < s
  · have hd2 : decide (251 < s) = true := by simpa using h251
    go_wp2_with fail
    refine (awake30 _).mono ?_
    rintro e w4 ⟨rfl, hb5⟩
    have hb6 := below_chain hb5 hb4
    go_wp2_with fail
    go_ret
    exact ⟨rfl, hb6⟩
  have hd2 : decide (251 < s) = false := by simpa using h251
  go_wp2_with fail
  refine (NB.out _).mono ?_
  rintro e w4 ⟨⟨gc, gn, rfl, hgc, hgn, hC, hT⟩, hb5⟩
  have hz3 := hb4.size
  have P4 := P3.call hb5
  have K4 := K3.call hb5
  have hb6 := below_chain hb5 hb4
  replace hT := hT.mono hz3
  clear P3 K3 p0 p1 k0 k1 hb4 hb5 NB
  have p0 := P4.cell 0
  have p1 := P4.cell 1
  have k0 := K4.cell 0
  have k1 := K4.cell 1
  simp only [List.getElem?_toArray, List.getElem?_cons_zero, List.getElem?_cons_succ] at p0 p1 k0 k1
  go_wp2_with fail
  refine (RN.out _).mono ?_
  rintro e w5 ⟨gx, rfl, hgx, hX, hb7⟩
  have hz4 := hb6.size
  have P5 := P4.call hb7
  have C5 := Blk.call hC hb7
  have T5 := hT.call hb7
  have hb8 := below_chain hb7 hb6
  clear P4 K4 p0 p1 k0 k1 hb6 hb7 RN hC hT
  have p0 := P5.cell 0
  have p1 := P5.cell 1
  simp only [List.getElem?_toArray, List.getElem?_cons_zero, List.getElem?_cons_succ] at p0 p1
  go_wp2_with fail
  go_region_held3 (fun W => Below w5.heap.size w5 W ∧ W.cell? ⟨w.heap.size, 0, none⟩ = some (.int .i64 k) ∧ W.cell? ⟨w.heap.size, 1, none⟩ = some (.int .i64 s)) ((first | assumption | ((refine ⟨?_, ?_⟩; (first | assumption | exact (Below.refl _ _).drew | exact Below.refl _ _); go_keep)))) (first
    | (go_at_call 45; (with_reducible refine (PR.out _).mono ?_); rintro e w6 ⟨rfl, hb9⟩; have hS := hold2 (by assumption) hb9)
    | (go_at_call 38; (with_reducible refine (RR.out _).mono ?_); rintro e w6 ⟨rfl, hb9⟩; have hS := hold2 (by assumption) hb9))
  all_goals
    have hb10 : Below w.heap.size w w6 := below_chain hS.1 hb8
    have C6 := Blk.call C5 hS.1
    have T6 := T5.call hS.1
    have X6 := Blk.call hX hS.1
    clear p0 p1 P5 hb8 hS hb9 RR PR C5 T5 hX
    go_wp2_with fail
    refine (load_new _).mono ?_
    rintro e w7 ⟨gl, bl, rfl, hL, -, hbl, hb11⟩
    have hz6 := hb10.size
    have hb12 := below_chain hb11 hb10
    have S8 := pst_start (w := w) hb12.size (by omega) (by omega) (Blk.call C6 hb11) (T6.call hb11) (by omega) (Blk.call X6 hb11) hL (by omega)
    have hz7 := hb12.size
    clear hb10 hb11 C6 T6 X6 hL
    go_wp2_with fail
    have hb13 := below_alloc hb12 (.cells #[.slice none 0 0, .slice none 0 0] 98)
    generalize w7.alloc (.cells #[.slice none 0 0, .slice none 0 0] 98) = w8 at *
    generalize w7.heap.size = gm at *
    clear hb12
    obtain ⟨K, hKd⟩ : ∃ K : Int → List Bk → Prop, K = fun z l => (z = v ∧ l = la) ∨ (z = v' ∧ l = lb) := ⟨_, rfl⟩
    have SA : SetOK w (v ≠ v') K v la Aa := ⟨hra.out, HA.out, fun _ => by rw [hKd]; exact .inl ⟨rfl, rfl⟩⟩
    have SB : SetOK w (v ≠ v') K v' lb Ab := ⟨hrb.out, HB.out, fun _ => by rw [hKd]; exact .inr ⟨rfl, rfl⟩⟩
    have hK : v ≠ v' → ∀ z a b, K z a → K z b → a = b := by
      intro hne z a b h1 h2
      rw [hKd] at h1 h2
      rcases h1 with ⟨rfl, rfl⟩ | ⟨rfl, rfl⟩ <;> rcases h2 with ⟨h3, rfl⟩ | ⟨h3, rfl⟩
      · rfl
      · exact absurd h3 hne
      · exact absurd h3.symm hne
      · rfl
    have R8 : Rnd (v ≠ v') K (setS k s) 0 := ⟨psok_set hpok.out (by omega) 0, fun _ => psin_set _ _ _⟩
    replace SA := Lib.hid SA
    replace SB := Lib.hid SB
    replace hK := Lib.hid hK
    replace R8 := Lib.hid R8
    replace S8 := Lib.hid S8
    clear hKd hra hrb HA HB
    go_loopg [20] ps.length (fun gk i wr => ∃ (q : Nat) (σ : PS) (M : LM) (gN : Nat), q + gk = ps.length ∧ i = .int .i64 (q : Nat) ∧ PSt wr w.heap.size gc gx gl bl gm gN ka kb σ σ M ∧ Rnd (v ≠ v') K σ ((q : Int) * 1000000) ∧ lmPos M ∧ lmSorted M ∧ M.length ≤ q ∧ Below w.heap.size w wr)
    case atStart => exact ⟨0, _, [], gx, by omega, rfl, S8.out, by simpa using R8.out, by simp [lmPos], by simp [lmSorted], by simp, hb13⟩
    case round =>
      obtain ⟨q, σ, M, gN, hq, rfl, S, R, hMp, hMs, hMl, hb⟩ := hrel
      clear S8 R8 hb13
      cases gk with
      | succ g' =>
        have hlt : q < ps.length := by omega
        have hlti : (q : Int) < (ps.length : Int) := by omega
        obtain ⟨ad, o, rfl, hbl2, ho, c0, c1, c2, c3, c4, c5, c6, c7, c8, c9, c10, c11, c12, c13, c14⟩ := pk_at15 (hrp.out.below hb) hlt
        obtain ⟨x1, x2, x3, x4, x5, x6⟩ := hpw.out o (List.mem_of_getElem? ho)
        obtain ⟨kd, sec, ⟨t1, t2, t3, t4, t5, t6, t7, t8, t9⟩, oa, ob, opk, ops⟩ := o
        dsimp only at *
        have hql : q ≤ 30 := by omega
        replace S := Lib.hid S
        replace R := Lib.hid R
        replace ho := Lib.hid ho
        obtain ⟨wA, hwA⟩ : ∃ wA, wA = wr.alloc (.cells #[.int .i64 kd, .bool sec, .int .i64 t1, .bool t2, .int .u64 t3, .int .u64 t4, .bool t5, .int .u64 t6, .int .u64 t7, .int .i64 t8, .int .i64 t9, .int .u64 oa, .int .u64 ob, .int .i64 opk, .int .i64 ops] 100) := ⟨_, rfl⟩
        have hbA : Below wr.heap.size wr wA := hwA ▸ below_alloc (Below.refl _ _) _
        have OA : Blk wA wr.heap.size 100 #[.int .i64 kd, .bool sec, .int .i64 t1, .bool t2, .int .u64 t3, .int .u64 t4, .bool t5, .int .u64 t6, .int .u64 t7, .int .i64 t8, .int .i64 t9, .int .u64 oa, .int .u64 ob, .int .i64 opk, .int .i64 ops] := hwA ▸ Blk.new _ _ _
        go_upto_if 110 with fail
        rw [← hwA]
        clear hwA
        clear c0 c1 c2 c3 c4 c5 c6 c7 c8 c9 c10 c11 c12 c13 c14
        have hbB := below_chain hbA hb
        have PA := S.out.call hbA
        replace PA := Lib.hid PA
        clear hbA hb S
        generalize wr.heap.size = gO at *
        have o0 := OA.cell 0
        have o1 := OA.cell 1
        have o2 := OA.cell 2
        have o3 := OA.cell 3
        have o4 := OA.cell 4
        have o5 := OA.cell 5
        have o6 := OA.cell 6
        have o7 := OA.cell 7
        have o8 := OA.cell 8
        have o9 := OA.cell 9
        have o10 := OA.cell 10
        have o11 := OA.cell 11
        have o12 := OA.cell 12
        have o13 := OA.cell 13
        have o14 := OA.cell 14
        simp only [List.getElem?_toArray, List.getElem?_cons_zero, List.getElem?_cons_succ] at o0 o1 o2 o3 o4 o5 o6 o7 o8 o9 o10 o11 o12 o13 o14
        go_cut [22, 23] from 93 to 228 (fun x22 x23 wx => wA = wx ∧ ∃ (ver : Int) (l : List Bk) (A : Option Addr) (c : Nat), x22 = .slice A l.length c ∧ x23 = .int .i64 ver ∧ SetOK w (v ≠ v') K ver l A)
        case first =>
          cases sec
          · go_wp2_with fail
            go_meet
            exact ⟨rfl, v, la, Aa, ca, rfl, rfl, SA.out⟩
          · go_wp2_with fail
            go_meet
            exact ⟨rfl, v', lb, Ab, cb, rfl, rfl, SB.out⟩
        case rest =>
          obtain ⟨rfl, ver, l, A, c, rfl, rfl, SX⟩ := hcut
          replace SX := Lib.hid SX
          go_upto_region 21 with fail
          have D9 := Blk.new wA 36 #[.int .i64 ver, .slice A l.length c]
          have hb9 := below_alloc hbB (.cells #[.int .i64 ver, .slice A l.length c] 36)
          have O9 := OA.alloc (.cells #[.int .i64 ver, .slice A l.length c] 36)
          have P9 := PA.out.call (below_alloc (Below.refl _ _) (.cells #[.int .i64 ver, .slice A l.length c] 36))
          replace P9 := Lib.hid P9
          generalize wA.alloc (.cells #[.int .i64 ver, .slice A l.length c] 36) = w9 at *
          generalize wA.heap.size = gS at *
          clear hbB PA OA o0 o1 o2 o3 o4 o5 o6 o7 o8 o9 o10 o11 o12 o13 o14
          have o0 := O9.cell 0
          have o1 := O9.cell 1
          have o2 := O9.cell 2
          have o3 := O9.cell 3
          have o4 := O9.cell 4
          have o5 := O9.cell 5
          have o6 := O9.cell 6
          have o7 := O9.cell 7
          have o8 := O9.cell 8
          have o9 := O9.cell 9
          have o10 := O9.cell 10
          have o11 := O9.cell 11
          have o12 := O9.cell 12
          have o13 := O9.cell 13
          have o14 := O9.cell 14
          simp only [List.getElem?_toArray, List.getElem?_cons_zero, List.getElem?_cons_succ] at o0 o1 o2 o3 o4 o5 o6 o7 o8 o9 o10 o11 o12 o13 o14
          have d0 := D9.cell 0
          have d1 := D9.cell 1
          simp only [List.getElem?_toArray, List.getElem?_cons_zero, List.getElem?_cons_succ] at d0 d1
          replace SX := SX.out
          go_upto_block 2 with fail
          go_cut [25, 26, 27, 28] from 93 to 228 (fun y25 y26 y27 y28 wx => ∃ (I E : Int) (σ' : PS) (gN' : Nat), y25 = .int .i64 I ∧ y26 = .int .i64 E ∧ y27 = .int .i64 I ∧ y28 = .int .i64 E ∧ PSt wx w.heap.size gc gx gl bl gm gN' ka kb σ' σ' M ∧ Rnd (v ≠ v') K σ' ((q : Int) * 1000000 + 1000000) ∧ Blk wx gO 100 #[.int .i64 kd, .bool sec, .int .i64 t1, .bool t2, .int .u64 t3, .int .u64 t4, .bool t5, .int .u64 t6, .int .u64 t7, .int .i64 t8, .int .i64 t9, .int .u64 oa, .int .u64 ob, .int .i64 opk, .int .i64 ops] ∧ Below w.heap.size w wx ∧ (kd ≠ 4 → (E = 0 ∨ E = 8) ∧ (E = 0 → v ≠ v' → hasB l I = true) ∧ (E = 0 → (Lit.int .i64 I).wf = true ∨ ¬ v ≠ v')))
          case first =>
            by_cases h3 : kd = 3
            · subst h3
              go_wp2_with fail
              refine (rnd_hash _ SX hb9 P9.out R.out hK.out ⟨t1, t2, t3, t4, t5, t6, t7, t8, t9⟩ ⟨x1, x2, x3, x4⟩).mono ?_
              rintro e w10 ⟨I, E, σ', rfl, S10, hb10, kp10, hE, R10, hH, hW, D⟩
              have O10 := kp10 _ _ O9
              replace D := Lib.hid D
              clear D9 P9 hb9 kp10 o0 o1 o2 o3 o4 o5 o6 o7 o8 o9 o10 o11 o12 o13 o14
              have o2 := O10.cell 2
              have o3 := O10.cell 3
              have o4 := O10.cell 4
              have o5 := O10.cell 5
              have o6 := O10.cell 6
              have o7 := O10.cell 7
              have o8 := O10.cell 8
              have o9 := O10.cell 9
              have o10 := O10.cell 10
              simp only [List.getElem?_toArray, List.getElem?_cons_zero, List.getElem?_cons_succ] at o2 o3 o4 o5 o6 o7 o8 o9 o10
              go_wp2_with fail
              refine (D.out _ S10 hb10).mono ?_
              rintro e w11 ⟨rfl, gN', S11, hb11, kp11⟩
              have O11 := kp11 _ _ O10
              clear D S10 hb10 O10 kp11 o2 o3 o4 o5 o6 o7 o8 o9 o10
              go_wp2_with fail
              go_meet
              exact ⟨I, E, σ', gN', rfl, rfl, rfl, rfl, S11, R10, O11, hb11, fun _ => ⟨hE, hH, hW⟩⟩
            by_cases h4 : kd = 4
            · subst h4
              clear h3
              go_wp2_with fail
              refine (refpolright_any opk ops _).mono ?_
              rintro e w10 ⟨rfl, hb10a⟩
              have O10 := O9.call hb10a
              have S10 := P9.out.call hb10a
              have hb10 := below_chain hb10a hb9
              clear D9 P9 hb9 hb10a o0 o1 o2 o3 o4 o5 o6 o7 o8 o9 o10 o11 o12 o13 o14
              obtain ⟨z, hz4⟩ : ∃ z, polOk opk ops = z := ⟨_, rfl⟩
              rw [hz4]
              have o13 := O10.cell 13
              have o14 := O10.cell 14
              simp only [List.getElem?_toArray, List.getElem?_cons_zero, List.getElem?_cons_succ] at o13 o14
              cases z
              · have hsz : polOk opk ops = true → ops ≤ 251 := fun h => by rw [hz4] at h; cases h
                go_wp2_with fail
                refine (rnd_set hb10 S10 R.out opk ops hsz).mono ?_
                rintro e w12 ⟨E, σ', rfl, S12, hb12, kp12, R12, D⟩
                have O12 := kp12 _ _ O10
                replace D := Lib.hid D
                clear O10 S10 hb10 kp12 o13 o14
                have o13 := O12.cell 13
                have o14 := O12.cell 14
                simp only [List.getElem?_toArray, List.getElem?_cons_zero, List.getElem?_cons_succ] at o13 o14
                go_wp2_with fail
                refine (D.out _ S12 hb12).mono ?_
                rintro e w11 ⟨rfl, S11, hb11, kp11⟩
                have O11 := kp11 _ _ O12
                clear D S12 hb12 O12 kp11 o13 o14
                go_wp2_with fail
                go_meet
                exact ⟨0, E, σ', gN, rfl, rfl, rfl, rfl, S11, R12, O11, hb11, fun h => absurd rfl h⟩
              · by_cases h5 : 251 < ops
                · have hd5 : decide (251 < ops) = true := by simpa using h5
                  go_wp2_with fail
                  refine (awake30 _).mono ?_
                  rintro e w11 ⟨rfl, hb11⟩
                  have hb12 := below_chain hb11 hb10
                  go_wp2_with fail
                  go_ret
                  exact ⟨rfl, hb12⟩
                · have hd5 : decide (251 < ops) = false := by simpa using h5
                  have hsz : polOk opk ops = true → ops ≤ 251 := fun _ => by omega
                  go_wp2_with fail
                  refine (rnd_set hb10 S10 R.out opk ops hsz).mono ?_
                  rintro e w12 ⟨E, σ', rfl, S12, hb12, kp12, R12, D⟩
                  have O12 := kp12 _ _ O10
                  replace D := Lib.hid D
                  clear O10 S10 hb10 kp12 o13 o14
                  have o13 := O12.cell 13
                  have o14 := O12.cell 14
                  simp only [List.getElem?_toArray, List.getElem?_cons_zero, List.getElem?_cons_succ] at o13 o14
                  go_wp2_with fail
                  refine (D.out _ S12 hb12).mono ?_
                  rintro e w11 ⟨rfl, S11, hb11, kp11⟩
                  have O11 := kp11 _ _ O12
                  clear D S12 hb12 O12 kp11 o13 o14
                  go_wp2_with fail
                  go_meet
                  exact ⟨0, E, σ', gN, rfl, rfl, rfl, rfl, S11, R12, O11, hb11, fun h => absurd rfl h⟩
            have h3b : (kd == 3) = false := by simpa using h3
            have h4b : (kd == 4) = false := by simpa using h4
            replace h3 := Lib.hid h3
            replace h4 := Lib.hid h4
            go_wp2_with fail
            refine (rnd_pick _ SX hb9 P9.out R.out (by omega) (by omega) hK.out ⟨t1, t2, t3, t4, t5, t6, t7, t8, t9⟩ ⟨x1, x2, x3, x4⟩ oa ob x5 x6).mono ?_
            rintro e w10 ⟨I, E, σ', rfl, S10, hb10, kp10, hE, R10, hH, hW, D⟩
            have O10 := kp10 _ _ O9
            replace D := Lib.hid D
            clear D9 P9 hb9 kp10 o0 o1 o2 o3 o4 o5 o6 o7 o8 o9 o10 o11 o12 o13 o14
            have o2 := O10.cell 2
            have o3 := O10.cell 3
            have o4 := O10.cell 4
            have o5 := O10.cell 5
            have o6 := O10.cell 6
            have o7 := O10.cell 7
            have o8 := O10.cell 8
            have o9 := O10.cell 9
            have o10 := O10.cell 10
            have o11 := O10.cell 11
            have o12 := O10.cell 12
            simp only [List.getElem?_toArray, List.getElem?_cons_zero, List.getElem?_cons_succ] at o2 o3 o4 o5 o6 o7 o8 o9 o10 o11 o12
            go_wp2_with fail
            refine (D.out _ S10 hb10).mono ?_
            rintro e w11 ⟨rfl, gN', S11, hb11, kp11⟩
            have O11 := kp11 _ _ O10
            clear D S10 hb10 O10 kp11 o2 o3 o4 o5 o6 o7 o8 o9 o10 o11 o12
            go_wp2_with fail
            go_meet
            exact ⟨I, E, σ', gN', rfl, rfl, rfl, rfl, S11, R10, O11, hb11, fun _ => ⟨hE, hH, hW⟩⟩
          case rest =>
            obtain ⟨I, E, σ', gN', rfl, rfl, rfl, rfl, S11, R10, O11, hb11, hE⟩ := hcut
            generalize wc = w11 at *
            clear O9 P9 D9 hb9 d0 d1 R o0 o1 o2 o3 o4 o5 o6 o7 o8 o9 o10 o11 o12 o13 o14
            have kc := S11.kcell
            have KD := fun (W : World) (h : Below w11.heap.size w11 W) => (S11.call h).kind
            have kk : (σ'.k != σ'.k) = false := by simp
            have ii : (I != I) = false := by simp
            have ee : (E != E) = false := by simp
            replace KD := Lib.hid KD
            replace S11 := Lib.hid S11
            replace R10 := Lib.hid R10
            go_wp2_with fail
            go_region_held3 (fun W => Below w11.heap.size w11 W ∧ W.cell? ⟨gx, 0, none⟩ = some (.int .i64 σ'.k)) ((first | assumption | ((refine ⟨?_, ?_⟩; (first | assumption | exact (Below.refl _ _).drew | exact Below.refl _ _); go_keep)))) (first
              | (go_at_call 50; (with_reducible refine (KD.out _ (And.left (by assumption))).mono ?_); rintro e w12 ⟨rfl, he12⟩; have hS := hold1 (by assumption) (below_of_eq he12); clear he12))
            all_goals
              have hb12 := below_chain hS.1 hb11
              have S12 := S11.out.call hS.1
              have O12 := O11.call hS.1
              clear kc KD hS O11 hb11 S11 kk ee ii
              have o0 := O12.cell 0
              simp only [List.getElem?_toArray, List.getElem?_cons_zero] at o0
              have hq1 : ((q + 1 : Nat) : Int) * 1000000 = (q : Int) * 1000000 + 1000000 := by omega
              replace S12 := Lib.hid S12
              replace hq1 := Lib.hid hq1
              clear O12
              by_cases h4 : kd = 4
              · subst h4
                clear hE
                go_wp2_with fail
                go_roundg g'
                case measure => omega
                case rel => exact ⟨q + 1, σ', M, gN', by omega, by go_num, S12.out, by rw [hq1.out]; exact R10.out, hMp, hMs, by omega, hb12⟩
              have h4n : (kd != 4) = true := by simpa using h4
              obtain ⟨hE, hH, hW⟩ := hE h4
              replace h4 := Lib.hid h4
              rcases hE with rfl | rfl
              · by_cases hv : v = v'
                · have hvb : (v != v') = false := by simpa using hv
                  replace hv := Lib.hid hv
                  go_wp2_with fail
                  go_roundg g'
                  case measure => omega
                  case rel => exact ⟨q + 1, σ', M, gN', by omega, by go_num, S12.out, by rw [hq1.out]; exact R10.out, hMp, hMs, by omega, hb12⟩
                · have hvb : (v != v') = true := by simpa using hv
                  have hHas := hH rfl hv
                  have hId := (hW rfl).resolve_right (fun h => h hv)
                  have HS := fun c => ref24_has l A c I w12 ((SX.rd.below hb12).more hb12.size) (by have := SX.lw.1; omega)
                  rw [hHas] at HS
                  have AD := rnd_add hb12 S12.out I hId hMp hMs (by omega)
                  replace HS := Lib.hid HS
                  replace AD := Lib.hid AD
                  replace hv := Lib.hid hv
                  go_wp2_with fail
                  refine (HS.out _).mono ?_
                  rintro e w13 ⟨rfl, rfl⟩
                  go_wp2_with fail
                  refine AD.out.mono ?_
                  rintro e w13 ⟨rfl, hb13, AD2⟩
                  replace AD2 := Lib.hid AD2
                  clear AD HS o0 S12
                  go_wp2_with fail
                  refine AD2.out.mono ?_
                  rintro e w14 ⟨rfl, S14, hb14⟩
                  clear AD2
                  go_wp2_with fail
                  go_roundg g'
                  case measure => omega
                  case rel => exact ⟨q + 1, σ', lmAdd M I 1, gN', by omega, by go_num, S14, by rw [hq1.out]; exact R10.out, lmAdd_pos hMp _ _, lmAdd_sorted hMs _ _, by have := lmAdd_length M I 1; omega, hb14⟩
              · go_wp2_with fail
                go_roundg g'
                case measure => omega
                case rel => exact ⟨q + 1, σ', M, gN', by omega, by go_num, S12.out, by rw [hq1.out]; exact R10.out, hMp, hMs, by omega, hb12⟩
      | zero =>
        obtain rfl : q = ps.length := by omega
        have hlti : ¬ (ps.length : Int) < (ps.length : Int) := by omega
        clear S R hrp
        go_wp2_with fail
        refine (awake30 _).mono ?_
        rintro e w9 ⟨rfl, hb14⟩
        have hb15 := below_chain hb14 hb
        go_wp2_with fail
        go_ret
        exact ⟨rfl, hb15⟩
end Go.Proofs.Ytkpkjpdhlmjchaa
