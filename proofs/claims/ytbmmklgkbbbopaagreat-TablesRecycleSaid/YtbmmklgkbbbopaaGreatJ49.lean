/- tables: the law TablesRecycle, called: a step that touches. tables: the law TablesRecycle, called: what is found at the end. tables: the law TablesRecycle, called: is a connection live still. -/
import Derived.Test.YtbmmklgkbbbopaaGreatJ48
namespace Go.Proofs.YtbmmklgkbbbopaaGreat
open Go Go.RowKit Go.Deep Go.Maps Go.ChangeMaps

/-- A step's cells. -/
@[reducible] def StepAt (rs : Nat) (s : T20) (W : World) : Prop := W.cell? ⟨rs, 0, none⟩ = some (.int .i64 s.kd) ∧ W.cell? ⟨rs, 1, none⟩ = some (.int .i64 s.tu.p) ∧ W.cell? ⟨rs, 2, none⟩ = some (.bool s.tu.v) ∧ W.cell? ⟨rs, 3, none⟩ = some (.int .u64 s.tu.hi) ∧ W.cell? ⟨rs, 4, none⟩ = some (.int .u64 s.tu.lo) ∧ W.cell? ⟨rs, 5, none⟩ = some (.bool s.tu.v') ∧ W.cell? ⟨rs, 6, none⟩ = some (.int .u64 s.tu.hi') ∧ W.cell? ⟨rs, 7, none⟩ = some (.int .u64 s.tu.lo') ∧ W.cell? ⟨rs, 8, none⟩ = some (.int .i64 s.tu.sp) ∧ W.cell? ⟨rs, 9, none⟩ = some (.int .i64 s.tu.dp) ∧ W.cell? ⟨rs, 10, none⟩ = some (.int .i64 s.n) ∧ W.cell? ⟨rs, 11, none⟩ = some (.int .i64 s.bk) ∧ W.cell? ⟨rs, 12, none⟩ = some (.int .u64 s.ck) ∧ W.cell? ⟨rs, 13, none⟩ = some (.int .i64 s.pk)
theorem StepAt.call {rs : Nat} {s : T20} {W W' : World} (h : StepAt rs s W) (hb : Below W.heap.size W W') : StepAt rs s W' := by
  have k : ∀ {a : Addr} {v : Value}, W.cell? a = some v → W'.cell? a = some v := fun e => (hb.cell (block_lt_of_cell e)).trans e
  obtain ⟨h0, h1, h2, h3, h4, h5, h6, h7, h8, h9, h10, h11, h12, h13⟩ := h
  exact ⟨k h0, k h1, k h2, k h3, k h4, k h5, k h6, k h7, k h8, k h9, k h10, k h11, k h12, k h13⟩
theorem StepAt.of {rs : Nat} {s : T20} {W : World} {t : TypeId} (h : Blk W rs t s.cells.toArray) : StepAt rs s W := ⟨h.cell 0, h.cell 1, h.cell 2, h.cell 3, h.cell 4, h.cell 5, h.cell 6, h.cell 7, h.cell 8, h.cell 9, h.cell 10, h.cell 11, h.cell 12, h.cell 13⟩
set_option maxRecDepth 100000 in
set_option maxHeartbeats 64000000 in
theorem tablesRecycle_yes_arm2 : tablesRecycle_pack.2.1 := by
  intro l d w h30 e30 e31 sb gb hsb12 p n hwf hn8 wd gn ka kb a b c d2 G hp hsm zz0 w0 rb hrb hrw w1 w3 w4 w5 g R hy hp1 hnR hnpR hR hLI0 zz1 zz2 gk wr u10 u11 u12 u13 u43 u44 u45 u46 u47 u48 u49 u50 u51 u52 u53 u54 u55 u56 u57 u58 u59 u60 u61 u62 u63 u64 u65 u66 u67 u68 u69 u70 u71 u72 u73 u74 u75 u76 u77 u78 u79 u80 u81 u82 u83 u84 u85 u86 u87 u88 u89 u90 u91 u92 u93 u94 u95 u96 u97 u98 u99 u100 u101 zz3 zz4 zz5 k S A A2 q q2 cs O hk hnA hnA2 hcl hlt hlti ad st hr zz6 hdA' hL hwfs hcs zz7 zz8 zz9 zz10 rs hrbl hAl hrs w6 hz1 s1 s2 s3 s4 s5 s6 s7 s8 s9 s10 s11 s12 s13 REL K4 K5 hKN Sb hO1 hO3 hRb1 hT1 hK hpx s0 hkd
  have hS0 : StepAt rs st w6.drew := ⟨Sb.out.cell 0, Sb.out.cell 1, Sb.out.cell 2, Sb.out.cell 3, Sb.out.cell 4, Sb.out.cell 5, Sb.out.cell 6, Sb.out.cell 7, Sb.out.cell 8, Sb.out.cell 9, Sb.out.cell 10, Sb.out.cell 11, Sb.out.cell 12, Sb.out.cell 13⟩
  have hRd := hO1.out.reads
  rw [flat_u64] at hRd
  have hRd2 : Reads w6.drew w6.drew.heap.size 1 A cs.length (cs.map (.int .u64)) := hRd
  obtain ⟨ck, hck, CH⟩ := law20_chosen st hwfs.out A q cs hcs.out (by omega) w6.drew hRd2
  have hd : Below w6.heap.size w6 w6.drew := (Below.refl _ _).drew
  have K1 := Lib.hid fun W (hb : Below w6.drew.heap.size w6.drew W) => tabsn_touch (hT1.out.call0 (below_chain hb hd)) (fun b hb2 => by have := hK.out b hb2; have := hb.size; have := hd.size; omega) st.tu ck hck st.n
  have hLI := Lib.hid (hL.out.touch (t := st.tu) (by omega) (by omega) (hpx.out st.tu) ck st.n)
  replace CH := Lib.hid CH
  clear K4 K5 hKN hRd hRd2
  go_upto_region 19 with fail
  clear s0 s1 s2 s3 s4 s5 s6 s7 s8 s9 s10 s11 s12 s13 hkd
  refine wp_region_held_drew (S := StepAt rs st) (by kernel_rfl) hS0 (fun hHeld => ?_)
  have hwd : w6.drew.heap.size = w6.heap.size := rfl
  generalize w6.drew = wq at *
  (refine' takeH 0 (v := _) rfl (by kernel_rfl) (by kernel_rfl) (by kernel_rfl) (fun _ _ _ h => h) (Or.inl ⟨by rfl, ?_⟩) (by assumption) ?_; rotate_left; · ((intro w hSw; (try dsimp only at hSw); go_simp) <;> with_reducible rfl)); try go_frame
  (refine' takeH 1 (v := _) rfl (by kernel_rfl) (by kernel_rfl) (by kernel_rfl) (fun _ _ _ h => h) (Or.inl ⟨by rfl, ?_⟩) (by assumption) ?_; rotate_left; · ((intro w hSw; (try dsimp only at hSw); go_simp) <;> with_reducible rfl)); try go_frame
  (refine' takeH 2 (v := _) rfl (by kernel_rfl) (by kernel_rfl) (by kernel_rfl) (fun _ _ _ h => h) (Or.inl ⟨by rfl, ?_⟩) (by assumption) ?_; rotate_left; · ((intro w hSw; (try dsimp only at hSw); go_simp) <;> with_reducible rfl)); try go_frame
  (refine' takeH 3 (v := _) rfl (by kernel_rfl) (by kernel_rfl) (by kernel_rfl) (fun _ _ _ h => h) (Or.inl ⟨by rfl, ?_⟩) (by assumption) ?_; rotate_left; · ((intro w hSw; (try dsimp only at hSw); go_simp) <;> with_reducible rfl)); try go_frame
  (refine' takeH 4 (v := _) rfl (by kernel_rfl) (by kernel_rfl) (by kernel_rfl) (fun _ _ _ h => h) (Or.inl ⟨by rfl, ?_⟩) (by assumption) ?_; rotate_left; · ((intro w hSw; (try dsimp only at hSw); go_simp) <;> with_reducible rfl)); try go_frame
  (refine' takeH 6 (v := _) rfl (by kernel_rfl) (by kernel_rfl) (by kernel_rfl) (fun _ _ _ h => h) (Or.inl ⟨by rfl, ?_⟩) (by assumption) ?_; rotate_left; · ((intro w hSw; (try dsimp only at hSw); go_simp) <;> with_reducible rfl)); try go_frame
  (refine' takeH 7 (v := _) rfl (by kernel_rfl) (by kernel_rfl) (by kernel_rfl) (fun _ _ _ h => h) (Or.inl ⟨by rfl, ?_⟩) (by assumption) ?_; rotate_left; · ((intro w hSw; (try dsimp only at hSw); go_simp) <;> with_reducible rfl)); try go_frame
  refine wpAnyH_ready (rs := [5]) (by kernel_rfl) (by simp) ?_; refine consH rfl (fun K hK => ?_) AllReadyH.nil
  go_simp
  (go_at_call 13; (with_reducible refine CH.out.mono ?_))
  rintro e w5 ⟨rfl, hb5⟩
  refine hK.out _ _ (hHeld.call hb5) (fun hHeld => ?_)
  clear hK K
  try go_frame
  refine wpAnyH_ready (rs := [8]) (by kernel_rfl) (by simp) ?_; refine consH rfl (fun K hK => ?_) AllReadyH.nil
  go_simp
  (go_at_call 18; (with_reducible refine (K1.out _ hb5).mono ?_))
  rintro e w7 ⟨rfl, hT2, hc2⟩
  have S7 : Blk w7 rs 49 st.cells.toArray := (Sb.out.call (below_chain hb5 hd)).chg hc2 fun e => e.2 (.inr rfl)
  refine hK.out _ _ (StepAt.of S7) (fun hHeld => ?_)
  clear hK K
  have hc7 : Chg (Nk w fun b => K22 rb A A2 b ∨ b = rs) w6 w7 := (Chg.of_below (F := Nk w fun b => K22 rb A A2 b ∨ b = rs) (below_chain hb5 hd)).trans hc2 fun _ _ h => h
  obtain ⟨r1, r2, r3, r4, r5⟩ := REL.out _ _ hT2 hc7 (hLI.out.mono (by omega) (by omega))
  clear hHeld S7 hc7 hT2 hc2
  refine wpAnyH_done (by kernel_rfl) ?_ _
  go_wp2_with fail
  go_roundg (gk - 1)
  case measure => omega
  case rel => exact ⟨k + 1, _, A, A2, q, q2, cs, O, by omega, by go_num, rfl, rfl, r1, r2, hdA'.out, hnA, hnA2, hcs.out, by omega, r3, r4, r5⟩
end Go.Proofs.YtbmmklgkbbbopaaGreat

namespace Go.Proofs.YtbmmklgkbbbopaaGreat
open Go Go.RowKit Go.Deep Go.Maps Go.ChangeMaps

set_option maxRecDepth 100000 in
set_option maxHeartbeats 64000000 in
/-- tablesRecycle_yes_arm3, but for 3 stretches. -/
def tablesRecycle_end : (P1 : Prop) ×' (P2 : Prop) ×' (P3 : Prop) ×' (Hid P1 → Hid P2 → Hid P3 → tablesRecycle_pack.2.2.1) := by
  apply PSigma.mk
  apply PSigma.mk
  apply PSigma.mk
  · intro Q1 Q2 Q3
    intro l B d w h30 e30 e31 sb gb hsb12 p n hr hwf hn8 wd gn ka kb a b c d2 G hp hsm zz0 w0 rb hrb hrw w1 w3 w4 w5 g R hy hp1 hnR hnpR hR hLI0 zz1 zz2 gk wr u10 u11 u12 u13 u43 u44 u45 u46 u47 u48 u49 u50 u51 u52 u53 u54 u55 u56 u57 u58 u59 u60 u61 u62 u63 u64 u65 u66 u67 u68 u69 u70 u71 u72 u73 u74 u75 u76 u77 u78 u79 u80 u81 u82 u83 u84 u85 u86 u87 u88 u89 u90 u91 u92 u93 u94 u95 u96 u97 u98 u99 u100 u101 zz3 zz4 zz5 zz6 k S A A2 q q2 cs O hk hO hO2 hdA hnA hnA2 hcs hcl hT hL hRb hlt
    have hlti : ¬ (k : Int) < (l.length : Int) := by omega
    have hpx : ∀ t, pIx R t < p := fun t => (pIx_eq R t hp1.1 hp1.2.1 hp1.2.2).2
    have LV := Lib.hid (tabsn_live hT)
    have hLL : (entsL n p S).length ≤ 1000 := by
      have h1 := ents_free hL.li.ti p (Nat.le_refl _)
      have h2 : p * n ≤ 16 * 8 := Nat.mul_le_mul hp1.2.2 hn8
      omega
    have hOl : O.length ≤ 1000 := by have := hL.len; omega
    replace hT := Lib.hid hT
    replace hL := Lib.hid hL
    replace hO := Lib.hid hO
    replace hO2 := Lib.hid hO2
    replace hRb := Lib.hid hRb
    replace hcs := Lib.hid hcs
    replace hpx := Lib.hid hpx
    replace hdA := Lib.hid hdA
    clear hr hwf hLI0
    go_upto_region 25 with (go_at_call 26; (with_reducible refine LV.out.mono ?_); rintro e w2 ⟨A1, q1, rfl, hO1, hb2⟩)
    have hT2 := Lib.hid ((hT.out.call hb2))
    have hIn : ∀ b, InB A1 b → wr.heap.size ≤ b ∧ b < w2.heap.size := fun b hb => hO1.block hb
    have hO3 := Lib.hid (OwnA.call hO.out hb2)
    have hO4 := Lib.hid (OwnA.call hO2.out hb2)
    have hR2 := Lib.hid (hRb.out.call hb2)
    have hK3 : ∀ b, (K22 rb A A2 b ∨ wr.heap.size ≤ b ∧ b < w2.heap.size) → b < w2.heap.size := fun b hb => by
      have hz := hb2.size
      have h1 := hRb.out.lt
      rcases hb with (h | h | h) | h
      · omega
      · have := (OwnA.block hO.out h).2
        omega
      · have := (OwnA.block hO2.out h).2
        omega
      · omega
    replace hO1 := Lib.hid hO1
    replace hIn := Lib.hid hIn
    replace hK3 := Lib.hid hK3
    obtain ⟨LL, hLe⟩ : ∃ LL, entsL n p S = LL := ⟨_, rfl⟩
    rw [hLe] at hO1 hLL
    try rw [hLe]
    clear LV hT hO hO2 hRb
    obtain ⟨wo, rfl⟩ : ∃ wo, wo = wr := ⟨wr, rfl⟩
    have KP := Lib.hid fun (W : World) (hc : Chg (Nk w fun b => K22 rb A A2 b ∨ wo.heap.size ≤ b ∧ b < w2.heap.size) w2 W) =>
      show OwnU W w.heap.size A q cs ∧ OwnE W w.heap.size A2 q2 O ∧ OwnE W wo.heap.size A1 q1 LL ∧ Blk W rb 30 R.cells.toArray from
        ⟨OwnA.chg hO3.out hc fun b hb e => e.2 (.inl (.inr (.inl hb))), OwnA.chg hO4.out hc fun b hb e => e.2 (.inl (.inr (.inr hb))), OwnA.chg hO1.out hc fun b hb e => e.2 (.inr (hIn.out b hb)), hR2.out.chg hc fun e => e.2 (.inl (.inl rfl))⟩
    have hLe2 := Lib.hid hLe
    clear hLe
    go_wp2_with fail
    go_loopg [15] O.length (fun g2 iv wx => ∃ (m : Nat) (S' : Nat → TSt), m + g2 = O.length ∧ iv = .int .i64 (m : Nat) ∧ TabsN w wx g R p n S' (fun b => K22 rb A A2 b ∨ wo.heap.size ≤ b ∧ b < w2.heap.size) ∧ HI R p n S' (2 * (k : Int) + m) (k : Int) O cs ∧ entsL n p S' = LL ∧ Chg (Nk w fun b => K22 rb A A2 b ∨ wo.heap.size ≤ b ∧ b < w2.heap.size) w2 wx)
    case atStart => exact ⟨0, S, by omega, rfl, hT2.out, hL.out.mono (by omega) (by omega), hLe2.out, Chg.refl _ _⟩
    case round =>
      obtain ⟨m, S', hm, rfl, hT, hH, hE, hc⟩ := hrel
      obtain ⟨p1, p2, p3, p4⟩ := KP.out _ hc
      clear hT2 hO1 hO3 hO4 hR2 hL hLe2
      by_cases hml : m < O.length
      · have hmli : (m : Int) < (O.length : Int) := by omega
        obtain ⟨a2, rfl, hbl2, hcx⟩ := p2.reads.rec_at Slt.ent (fun _ => rfl) hml
        have hEnd := Lib.hid fun (ck : Nat) (h1 : cs.getD m 0 = ck) (h2 : ck < 18446744073709551616) => hist_end hH hy.out hnR.out hml hpx.out h1 h2
        have hHs := Lib.hid (hH.hs m hml)
        generalize O[m] = x at *
        have c0 : wr.cell? (a2.add (m * 14)) = some (.int .i64 x.t.p) := hcx 0 _ rfl
        have c1 : wr.cell? ⟨(a2.add (m * 14)).block, (a2.add (m * 14)).off + 1, none⟩ = some (.bool x.t.v) := hcx 1 _ rfl
        have c2 : wr.cell? ⟨(a2.add (m * 14)).block, (a2.add (m * 14)).off + 2, none⟩ = some (.int .u64 x.t.hi) := hcx 2 _ rfl
        have c3 : wr.cell? ⟨(a2.add (m * 14)).block, (a2.add (m * 14)).off + 3, none⟩ = some (.int .u64 x.t.lo) := hcx 3 _ rfl
        have c4 : wr.cell? ⟨(a2.add (m * 14)).block, (a2.add (m * 14)).off + 4, none⟩ = some (.bool x.t.v') := hcx 4 _ rfl
        have c5 : wr.cell? ⟨(a2.add (m * 14)).block, (a2.add (m * 14)).off + 5, none⟩ = some (.int .u64 x.t.hi') := hcx 5 _ rfl
        have c6 : wr.cell? ⟨(a2.add (m * 14)).block, (a2.add (m * 14)).off + 6, none⟩ = some (.int .u64 x.t.lo') := hcx 6 _ rfl
        have c7 : wr.cell? ⟨(a2.add (m * 14)).block, (a2.add (m * 14)).off + 7, none⟩ = some (.int .i64 x.t.sp) := hcx 7 _ rfl
        have c8 : wr.cell? ⟨(a2.add (m * 14)).block, (a2.add (m * 14)).off + 8, none⟩ = some (.int .i64 x.t.dp) := hcx 8 _ rfl
        have c9 : wr.cell? ⟨(a2.add (m * 14)).block, (a2.add (m * 14)).off + 9, none⟩ = some (.int .i64 x.bk) := hcx 9 _ rfl
        have c10 : wr.cell? ⟨(a2.add (m * 14)).block, (a2.add (m * 14)).off + 10, none⟩ = some (.int .i64 x.st) := hcx 10 _ rfl
        have c11 : wr.cell? ⟨(a2.add (m * 14)).block, (a2.add (m * 14)).off + 11, none⟩ = some (.int .i64 x.sl) := hcx 11 _ rfl
        have c12 : wr.cell? ⟨(a2.add (m * 14)).block, (a2.add (m * 14)).off + 12, none⟩ = some (.int .u64 x.gen) := hcx 12 _ rfl
        have c13 : wr.cell? ⟨(a2.add (m * 14)).block, (a2.add (m * 14)).off + 13, none⟩ = some (.int .i64 x.due) := hcx 13 _ rfl
        replace hT := Lib.hid hT
        replace hH := Lib.hid hH
        replace hE := Lib.hid hE
        replace hc := Lib.hid hc
        clear p1 p2 p3 p4 hcx
        go_upto_region 29 with fail
        change Code.wp _ _ _ _ (wr.alloc (.cells x.entA 52))
        have hba := below_alloc (Below.refl wr.heap.size wr) (.cells x.entA 52)
        have X0 := Blk.new wr 52 x.entA
        have hT1 := Lib.hid ((hT.out.call hba).mono (K' := fun b => (K22 rb (A) (some a2) b ∨ wo.heap.size ≤ b ∧ b < w2.heap.size) ∨ b = wr.heap.size) fun b hb => hb.imp id fun e => ⟨by omega, by rw [World.size_alloc]; omega⟩)
        have hc1 := Lib.hid (hc.out.trans (G := fun _ => False) (Chg.of_below hba) (fun b _ h => h.elim))
        have hzc := hc.out.size
        have hza : (wr.alloc (.cells x.entA 52)).heap.size = wr.heap.size + 1 := World.size_alloc _ _
        obtain ⟨q6, hq6⟩ : ∃ q, wr.heap.size = q := ⟨_, rfl⟩
        rw [hq6] at X0 hT1 hza hzc
        try rw [hq6]
        generalize wr.alloc (.cells x.entA 52) = w6 at *
        clear c0 c1 c2 c3 c4 c5 c6 c7 c8 c9 c10 c11 c12 c13 hba hT hc
        replace X0 := Lib.hid X0
        obtain ⟨wp, rfl⟩ : ∃ wp, wp = wr := ⟨wr, rfl⟩
        obtain ⟨go_, rfl⟩ : ∃ go_, go_ = gk := ⟨gk, rfl⟩
        have hOE := Lib.hid (KP.out _ hc1.out).2.2.1
        go_wp2_with fail
        go_loopg [17, 18] LL.length (fun g3 isv iv wy => ∃ j : Nat, j + g3 = LL.length ∧ iv = .int .i64 (j : Nat) ∧ isv = .bool (isG (LL.take j) x) ∧ Below w6.heap.size w6 wy)
        case atStart => exact ⟨0, by omega, rfl, rfl, Below.refl _ _⟩
        case round =>
          obtain ⟨j, hj, rfl, rfl, hbx⟩ := hrel
          have X1 := X0.out.call hbx
          by_cases hjl : j < LL.length
          · have hjli : (j : Int) < (LL.length : Int) := by omega
            obtain ⟨a1, rfl, hbl1, hcy⟩ := (hOE.out.call hbx).reads.rec_at Slt.ent (fun _ => rfl) hjl
            have hst : isG (LL.take (j + 1)) x = (isG (LL.take j) x || (tupB LL[j].t x.t && (LL[j].sl == x.sl && LL[j].gen == x.gen))) := any_succ LL (fun y => tupB y.t x.t && (y.sl == x.sl && y.gen == x.gen)) hjl
            generalize LL[j] = y at *
            have hTE := fun W => tup_eql y.t x.t W
            obtain ⟨bq, hbq⟩ : ∃ bq, isG (LL.take j) x = bq := ⟨_, rfl⟩
            obtain ⟨be, hbe⟩ : ∃ be, tupB y.t x.t = be := ⟨_, rfl⟩
            obtain ⟨bs, hbs⟩ : ∃ bs, (y.sl == x.sl) = bs := ⟨_, rfl⟩
            obtain ⟨bg, hbg⟩ : ∃ bg, (y.gen == x.gen) = bg := ⟨_, rfl⟩
            rw [hbe] at hTE
            rw [hbq, hbe, hbs, hbg] at hst
            rw [hbq]
            replace hst := Lib.hid hst
            have c0 : wr.cell? (a1.add (j * 14)) = some (.int .i64 y.t.p) := hcy 0 _ rfl
            have c1 : wr.cell? ⟨(a1.add (j * 14)).block, (a1.add (j * 14)).off + 1, none⟩ = some (.bool y.t.v) := hcy 1 _ rfl
            have c2 : wr.cell? ⟨(a1.add (j * 14)).block, (a1.add (j * 14)).off + 2, none⟩ = some (.int .u64 y.t.hi) := hcy 2 _ rfl
            have c3 : wr.cell? ⟨(a1.add (j * 14)).block, (a1.add (j * 14)).off + 3, none⟩ = some (.int .u64 y.t.lo) := hcy 3 _ rfl
            have c4 : wr.cell? ⟨(a1.add (j * 14)).block, (a1.add (j * 14)).off + 4, none⟩ = some (.bool y.t.v') := hcy 4 _ rfl
            have c5 : wr.cell? ⟨(a1.add (j * 14)).block, (a1.add (j * 14)).off + 5, none⟩ = some (.int .u64 y.t.hi') := hcy 5 _ rfl
            have c6 : wr.cell? ⟨(a1.add (j * 14)).block, (a1.add (j * 14)).off + 6, none⟩ = some (.int .u64 y.t.lo') := hcy 6 _ rfl
            have c7 : wr.cell? ⟨(a1.add (j * 14)).block, (a1.add (j * 14)).off + 7, none⟩ = some (.int .i64 y.t.sp) := hcy 7 _ rfl
            have c8 : wr.cell? ⟨(a1.add (j * 14)).block, (a1.add (j * 14)).off + 8, none⟩ = some (.int .i64 y.t.dp) := hcy 8 _ rfl
            have c9 : wr.cell? ⟨(a1.add (j * 14)).block, (a1.add (j * 14)).off + 9, none⟩ = some (.int .i64 y.bk) := hcy 9 _ rfl
            have c10 : wr.cell? ⟨(a1.add (j * 14)).block, (a1.add (j * 14)).off + 10, none⟩ = some (.int .i64 y.st) := hcy 10 _ rfl
            have c11 : wr.cell? ⟨(a1.add (j * 14)).block, (a1.add (j * 14)).off + 11, none⟩ = some (.int .i64 y.sl) := hcy 11 _ rfl
            have c12 : wr.cell? ⟨(a1.add (j * 14)).block, (a1.add (j * 14)).off + 12, none⟩ = some (.int .u64 y.gen) := hcy 12 _ rfl
            have c13 : wr.cell? ⟨(a1.add (j * 14)).block, (a1.add (j * 14)).off + 13, none⟩ = some (.int .i64 y.due) := hcy 13 _ rfl
            have x0 : wr.cell? ⟨q6, 0, none⟩ = some (.int .i64 x.t.p) := X1.cell 0
            have x1 : wr.cell? ⟨q6, 1, none⟩ = some (.bool x.t.v) := X1.cell 1
            have x2 : wr.cell? ⟨q6, 2, none⟩ = some (.int .u64 x.t.hi) := X1.cell 2
            have x3 : wr.cell? ⟨q6, 3, none⟩ = some (.int .u64 x.t.lo) := X1.cell 3
            have x4 : wr.cell? ⟨q6, 4, none⟩ = some (.bool x.t.v') := X1.cell 4
            have x5 : wr.cell? ⟨q6, 5, none⟩ = some (.int .u64 x.t.hi') := X1.cell 5
            have x6 : wr.cell? ⟨q6, 6, none⟩ = some (.int .u64 x.t.lo') := X1.cell 6
            have x7 : wr.cell? ⟨q6, 7, none⟩ = some (.int .i64 x.t.sp) := X1.cell 7
            have x8 : wr.cell? ⟨q6, 8, none⟩ = some (.int .i64 x.t.dp) := X1.cell 8
            have x9 : wr.cell? ⟨q6, 9, none⟩ = some (.int .i64 x.bk) := X1.cell 9
            have x10 : wr.cell? ⟨q6, 10, none⟩ = some (.int .i64 x.st) := X1.cell 10
            have x11 : wr.cell? ⟨q6, 11, none⟩ = some (.int .i64 x.sl) := X1.cell 11
            have x12 : wr.cell? ⟨q6, 12, none⟩ = some (.int .u64 x.gen) := X1.cell 12
            have x13 : wr.cell? ⟨q6, 13, none⟩ = some (.int .i64 x.due) := X1.cell 13
            clear hcy X1 hbq hbe
            rename_i yy0 yy1 yy2 yy3 yy4 yy5 yy6 yy7 yy8 yy9 yy10 yy11 yy12 yy13 yy14 yy15 yy16 yy17 yy18 yy19 yy20 yy21 yy22 yy23 yy24 yy25 yy26 yy27 yy28 yy29 yy30 yy31 yy32 yy33 yy34 yy35 yy36 yy37 yy38 yy39 yy40 yy41 yy42 yy43 yy44 yy45 yy46 yy47 yy48 yy49 yy50 yy51 yy52 yy53
            revert l B d w h30 e30 e31 sb gb hsb12 p n hn8 wd gn ka kb a b c d2 G hp hsm zz0 w0 rb hrb hrw w1 w3 w4 w5 g R hy hp1 hnR hnpR hR zz1 yy0 u10 u11 u12 u13 u43 u44 u45 u46 u47 u48 u49 u50 u51 u52 u53 u54 u55 u56 u57 u58 u59 u60 u61 u62 u63 u64 u65 u66 u67 u68 u69 u70 u71 u72 u73 u74 u75 u76 u77 u78 u79 u80 u81 u82 u83 u84 u85 u86 u87 u88 u89 u90 u91 u92 u93 u94 u95 u96 u97 u98 u99 u100 u101 zz3 zz4 zz5 zz6 k S A q q2 cs O hk hnA hcl hlt hOl hcs hpx yy1 yy2 w2 q1 hlti yy3 yy4 LL hLL wo hb2 u4 u16 u17 u18 u19 u20 u104 u105 u106 u107 u108 u109 u110 u111 u112 u113 yy5 yy6 yy7 yy8 yy9 yy10 yy11 yy12 yy13 yy14 yy15 yy16 yy17 yy18 yy19 yy20 yy21 yy22 yy23 yy24 yy25 yy26 yy27 yy28 yy29 yy30 yy31 yy32 yy33 yy34 yy35 yy36 yy37 yy38 yy39 yy40 yy41 u151 u152 u153 u154 u155 u156 u157 u158 u159 u160 u161 u162 u163 u164 u165 u166 u167 u168 u169 u170 u171 u172 u173 u174 u175 u176 u177 u178 u179 u180 u181 u182 u183 u184 u185 u186 u187 u188 u189 u190 u191 u192 u193 u194 u195 u196 u197 u198 u199 u200 u201 u202 u203 u204 u205 u206 u207 u208 u209 u210 u211 u212 u213 u214 u215 u216 u217 u218 u219 u220 u221 u222 u223 yy42 yy43 m S' hml hmli a2 hnA2 hdA hK3 x hEnd hHs hH hE yy44 yy45 q6 hzc w6 hc1 hza hT1 X0 wp hbl2 hq6 go_ yy46 hm yy47 yy48 gk wr u114 u115 u116 u117 u118 u119 u120 u121 u122 u123 u124 u125 u126 u127 u128 u129 u130 u131 u132 u133 u134 u135 u136 u137 u138 u139 u140 u141 u142 u143 u144 u145 u146 u147 u148 u149 u150 yy49 yy50 yy51 j hj hbx hjl hjli a1 hIn KP yy52 hOE yy53 hbl1 y bq be hTE bs hbs bg hbg hst c0 c1 c2 c3 c4 c5 c6 c7 c8 c9 c10 c11 c12 c13 x0 x1 x2 x3 x4 x5 x6 x7 x8 x9 x10 x11 x12 x13
            exact Q1.out
          · obtain rfl : j = LL.length := by omega
            have hjli : ¬ (LL.length : Int) < (LL.length : Int) := by omega
            rw [List.take_length]
            rename_i yy0 yy1 yy2 yy3 yy4 yy5 yy6 yy7 yy8 yy9 yy10 yy11 yy12 yy13 yy14 yy15 yy16 yy17 yy18 yy19 yy20 yy21 yy22 yy23 yy24 yy25 yy26 yy27 yy28 yy29 yy30 yy31 yy32 yy33 yy34 yy35 yy36 yy37 yy38 yy39 yy40 yy41 yy42 yy43 yy44 yy45 yy46 yy47 yy48 yy49 yy50 yy51 yy52 yy53
            revert l B d w h30 e30 e31 sb gb hsb12 p n hn8 wd gn ka kb a b c d2 G hp hsm zz0 w0 rb hrb hrw w1 w3 w4 w5 g R hy hp1 hnR hnpR hR zz1 yy0 u10 u11 u12 u13 u43 u44 u45 u46 u47 u48 u49 u50 u51 u52 u53 u54 u55 u56 u57 u58 u59 u60 u61 u62 u63 u64 u65 u66 u67 u68 u69 u70 u71 u72 u73 u74 u75 u76 u77 u78 u79 u80 u81 u82 u83 u84 u85 u86 u87 u88 u89 u90 u91 u92 u93 u94 u95 u96 u97 u98 u99 u100 u101 zz3 zz4 zz5 zz6 k S A q q2 cs O hk hnA hcl hlt hOl hcs hpx yy1 yy2 w2 A1 q1 hlti yy3 yy4 LL hLL wo hb2 hIn u4 u16 u17 u18 u19 u20 u104 u105 u106 u107 u108 u109 u110 u111 u112 u113 yy5 yy6 yy7 yy8 yy9 yy10 yy11 yy12 yy13 yy14 yy15 yy16 yy17 yy18 yy19 yy20 yy21 yy22 yy23 yy24 yy25 yy26 yy27 yy28 yy29 yy30 yy31 yy32 yy33 yy34 yy35 yy36 yy37 yy38 yy39 yy40 yy41 u151 u152 u153 u154 u155 u156 u157 u158 u159 u160 u161 u162 u163 u164 u165 u166 u167 u168 u169 u170 u171 u172 u173 u174 u175 u176 u177 u178 u179 u180 u181 u182 u183 u184 u185 u186 u187 u188 u189 u190 u191 u192 u193 u194 u195 u196 u197 u198 u199 u200 u201 u202 u203 u204 u205 u206 u207 u208 u209 u210 u211 u212 u213 u214 u215 u216 u217 u218 u219 u220 u221 u222 u223 yy42 yy43 m S' hml hmli a2 hnA2 hdA hK3 KP yy44 x hEnd hHs hH hE yy45 yy46 q6 hzc w6 hc1 hza hT1 X0 wp hbl2 hq6 go_ yy47 hm hOE yy48 yy49 gk wr u114 u115 u116 u117 u118 u119 u120 u121 u122 u123 u124 u125 u126 u127 u128 u129 u130 u131 u132 u133 u134 u135 u136 u137 u138 u139 u140 u141 u142 u143 u144 u145 u146 u147 u148 u149 u150 yy50 yy51 yy52 yy53 hbx X1 hj hjl hjli
            exact Q2.out
      · obtain rfl : m = O.length := by omega
        have hmli : ¬ (O.length : Int) < (O.length : Int) := by omega
        rename_i yy0 yy1 yy2 yy3 yy4 yy5 yy6 yy7 yy8
        revert l B d w h30 e30 e31 sb gb hsb12 p n hn8 wd gn ka kb a b c d2 G hp hsm zz0 w0 rb hrb hrw w1 w3 w4 w5 g R hy hp1 hnR hnpR hR zz1 yy0 u10 u11 u12 u13 u43 u44 u45 u46 u47 u48 u49 u50 u51 u52 u53 u54 u55 u56 u57 u58 u59 u60 u61 u62 u63 u64 u65 u66 u67 u68 u69 u70 u71 u72 u73 u74 u75 u76 u77 u78 u79 u80 u81 u82 u83 u84 u85 u86 u87 u88 u89 u90 u91 u92 u93 u94 u95 u96 u97 u98 u99 u100 u101 zz3 zz4 zz5 zz6 k S A A2 q q2 cs O hk hnA hnA2 hcl hlt hOl hcs hpx hdA yy1 yy2 w2 A1 q1 hlti yy3 yy4 LL hLL wo hb2 hIn hK3 KP gk wr u4 u16 u17 u18 u19 u20 u104 u105 u106 u107 u108 u109 u110 u111 u112 u113 u114 u115 u116 u117 u118 u119 u120 u121 u122 u123 u124 u125 u126 u127 u128 u129 u130 u131 u132 u133 u134 u135 u136 u137 u138 u139 u140 u141 u142 u143 u144 u145 u146 u147 u148 u149 u150 u151 u152 u153 u154 u155 u156 u157 u158 u159 u160 u161 u162 u163 u164 u165 u166 u167 u168 u169 u170 u171 u172 u173 u174 u175 u176 u177 u178 u179 u180 u181 u182 u183 u184 u185 u186 u187 u188 u189 u190 u191 u192 u193 u194 u195 u196 u197 u198 u199 u200 u201 u202 u203 u204 u205 u206 u207 u208 u209 u210 u211 u212 u213 u214 u215 u216 u217 u218 u219 u220 u221 u222 u223 yy5 yy6 yy7 yy8 S' hT hE hc p1 p2 p3 p4 hm hH hml hmli
        exact Q3.out
end Go.Proofs.YtbmmklgkbbbopaaGreat

namespace Go.Proofs.YtbmmklgkbbbopaaGreat
open Go Go.RowKit Go.Deep Go.Maps Go.ChangeMaps

set_option maxRecDepth 100000 in
set_option maxHeartbeats 64000000 in
theorem tablesRecycle_yes_arm3_s1 : tablesRecycle_end.1 := by
  intro l B d w h30 e30 e31 sb gb hsb12 p n hn8 wd gn ka kb a b c d2 G hp hsm zz0 w0 rb hrb hrw w1 w3 w4 w5 g R hy hp1 hnR hnpR hR zz1 yy0 u10 u11 u12 u13 u43 u44 u45 u46 u47 u48 u49 u50 u51 u52 u53 u54 u55 u56 u57 u58 u59 u60 u61 u62 u63 u64 u65 u66 u67 u68 u69 u70 u71 u72 u73 u74 u75 u76 u77 u78 u79 u80 u81 u82 u83 u84 u85 u86 u87 u88 u89 u90 u91 u92 u93 u94 u95 u96 u97 u98 u99 u100 u101 zz3 zz4 zz5 zz6 k S A q q2 cs O hk hnA hcl hlt hOl hcs hpx yy1 yy2 w2 q1 hlti yy3 yy4 LL hLL wo hb2 u4 u16 u17 u18 u19 u20 u104 u105 u106 u107 u108 u109 u110 u111 u112 u113 yy5 yy6 yy7 yy8 yy9 yy10 yy11 yy12 yy13 yy14 yy15 yy16 yy17 yy18 yy19 yy20 yy21 yy22 yy23 yy24 yy25 yy26 yy27 yy28 yy29 yy30 yy31 yy32 yy33 yy34 yy35 yy36 yy37 yy38 yy39 yy40 yy41 u151 u152 u153 u154 u155 u156 u157 u158 u159 u160 u161 u162 u163 u164 u165 u166 u167 u168 u169 u170 u171 u172 u173 u174 u175 u176 u177 u178 u179 u180 u181 u182 u183 u184 u185 u186 u187 u188 u189 u190 u191 u192 u193 u194 u195 u196 u197 u198 u199 u200 u201 u202 u203 u204 u205 u206 u207 u208 u209 u210 u211 u212 u213 u214 u215 u216 u217 u218 u219 u220 u221 u222 u223 yy42 yy43 m S' hml hmli a2 hnA2 hdA hK3 x hEnd hHs hH hE yy44 yy45 q6 hzc w6 hc1 hza hT1 X0 wp hbl2 hq6 go_ yy46 hm yy47 yy48 gk wr u114 u115 u116 u117 u118 u119 u120 u121 u122 u123 u124 u125 u126 u127 u128 u129 u130 u131 u132 u133 u134 u135 u136 u137 u138 u139 u140 u141 u142 u143 u144 u145 u146 u147 u148 u149 u150 yy49 yy50 yy51 j hj hbx hjl hjli a1 hIn KP yy52 hOE yy53 hbl1 y bq be hTE bs hbs bg hbg hst c0 c1 c2 c3 c4 c5 c6 c7 c8 c9 c10 c11 c12 c13 x0 x1 x2 x3 x4 x5 x6 x7 x8 x9 x10 x11 x12 x13
  cases bq
  · cases be
    · go_wp2_with fail
      go_quiet (fail)
      clear c0 c1 c2 c3 c4 c5 c6 c7 c8 c9 c10 c11 c12 c13 x0 x1 x2 x3 x4 x5 x6 x7 x8 x9 x10 x11 x12 x13 hTE
      go_wp2_with fail
      go_roundg (gk - 1)
      case measure => omega
      case rel => exact ⟨j + 1, by omega, by go_num, by rw [hst.out]; rfl, below_drewN hbx nq⟩
    · cases bs
      · go_wp2_with fail
        go_quiet (fail)
        clear c0 c1 c2 c3 c4 c5 c6 c7 c8 c9 c10 c11 c12 c13 x0 x1 x2 x3 x4 x5 x6 x7 x8 x9 x10 x11 x12 x13 hTE
        go_wp2_with fail
        go_roundg (gk - 1)
        case measure => omega
        case rel => exact ⟨j + 1, by omega, by go_num, by rw [hst.out]; rfl, below_drewN hbx nq⟩
      · go_wp2_with fail
        go_quiet (fail)
        clear c0 c1 c2 c3 c4 c5 c6 c7 c8 c9 c10 c11 c12 c13 x0 x1 x2 x3 x4 x5 x6 x7 x8 x9 x10 x11 x12 x13 hTE
        go_wp2_with fail
        go_roundg (gk - 1)
        case measure => omega
        case rel => exact ⟨j + 1, by omega, by go_num, by rw [hst.out]; rfl, below_drewN hbx nq⟩
  · clear c0 c1 c2 c3 c4 c5 c6 c7 c8 c9 c10 c11 c12 c13 x0 x1 x2 x3 x4 x5 x6 x7 x8 x9 x10 x11 x12 x13 hTE
    go_wp2_with fail
    go_quiet (fail)
    go_wp2_with fail
    go_roundg (gk - 1)
    case measure => omega
    case rel => exact ⟨j + 1, by omega, by go_num, by rw [hst.out]; rfl, below_drewN hbx nq⟩
end Go.Proofs.YtbmmklgkbbbopaaGreat
