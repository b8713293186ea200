/- tables: the law TablesFind, called: a step that touches. tables: the law TablesFind, called: a step that opens. tables: the law TablesFind, called: live entries and free slots at the end. tables: the law TablesFind, called: all of it. -/
import Derived.Test.YtbmmklgkbbbopaaGreatJ45
namespace Go.Proofs.YtbmmklgkbbbopaaGreat
open Go Go.RowKit Go.Deep Go.Maps Go.ChangeMaps

/-- Who is touched is of this tuple. -/
theorem touchVC_t {r : TRule} {n k : Nat} {s : TSt} {t : Tup} (hr : ruleOk r = true) (hn : n = 2 ^ r.sl.toNat) (hi : TI n s) (hk : k < 18446744073709551616) {fl : Int} (hf : findOkC r n s t k = true) : (touchVC r n s t k fl).t = t := by
  obtain ⟨c, hc, hu, ht, -, hv⟩ := findC_of hr hn hi hk hf
  unfold touchVC
  rw [if_pos hf, hv, hi.sl c hc]
  have hcl : closeOk n (findSC r n s t k) (c : Int) = true := closeOk_iff.2 ⟨c, rfl, hc, by rw [(findSC_eq s t k).1]; exact hu⟩
  unfold touchV
  rw [if_pos hcl, Int.toNat_natCast, (findSC_eq s t k).1]
  split
  · exact ht
  · exact ht
set_option maxRecDepth 100000 in
set_option maxHeartbeats 64000000 in
theorem tablesFind_yes_arm1_s2 : tablesFind_step.2.1 := by
  intro l d w h30 e30 e31 sb gb hsb12 p n hwf hn8 wd gn ka kb a b c d2 G hp hsm zz0 w0 rb hrb hrw w1 w3 w4 w5 g R hy hp1 hnR hnpR hR hLI0 zz1 zz2 u4 u9 u10 u11 u12 u13 u14 u15 u16 u17 u18 u19 u20 u21 u22 u23 u48 u49 u50 u51 u52 u53 u54 u55 u56 u57 u58 u59 u60 u61 u62 u63 u64 zz3 zz4 zz5 zz6 zz7 zz8 zz9 zz10 zz11 zz12 zz13 zz14 zz15 zz16 zz17 zz18 zz19 zz20 zz21 zz22 zz23 zz24 zz25 zz26 zz27 zz28 zz29 u92 u93 u94 u95 u96 u97 u98 u99 u100 u101 u102 u103 u104 u105 u106 u107 u108 u109 u110 u111 u112 u113 u114 u115 u116 u117 u118 u119 u120 u121 u122 u123 u124 u125 u126 u127 u128 u129 u130 u131 u132 u133 u134 u135 u136 u137 u138 u139 u140 u141 u142 u143 u144 u145 u146 u147 u148 u149 u150 u151 u152 u153 u154 u155 u156 u157 u158 u159 u160 u161 u162 u163 u164 u165 u166 u167 u168 u169 u170 u171 u172 u173 u174 u175 u176 u177 u178 u179 u180 u181 u182 u183 u184 u185 u186 u187 u188 u189 u190 u191 u192 u193 u194 u195 u196 u197 u198 u199 u200 u201 u202 u203 u204 u205 u206 u207 u208 u209 u210 u211 u212 u213 u214 u215 u216 u217 u218 u219 u220 u221 u222 u223 u224 u225 u226 zz30 zz31 k S A q cs hnA hcl hlt hlti ad st hr zz32 hL hwfs hcs zz33 zz34 rs hrbl hAl w6 hz1 ck hck w8 w9 A1 q1 hz8 hz9 hpx hIn LL hisF lk hLe hlk wo hrs go_ zz35 hk zz36 gk wr u65 u66 u67 u68 u69 u70 u71 u72 u73 u74 u75 u76 u77 u78 u79 u80 u81 u82 u83 u84 u85 u86 u87 u88 u89 u90 u91 zz37 zz38 zz39 zz40 hjl hjli hT10 hO10 hR10 hL10 hz10 hS10 hrw2 fo hfo zz41 zz42 zz43 zz44 s1 s2 s3 s4 s5 s6 s7 s8 s9 s10 s11 s12 s13 hK hlb REL K4 K5 s0 hkd
  have hti := hL.out.ti _ hpx
  have hfx : fo = true → (touchVC R n (S (pIx R st.tu)) st.tu ck st.n).t = st.tu := fun e => touchVC_t hy.out hnR.out hti hck (hfo.trans e)
  have K1 := tabsn_touch hT10.out hK st.tu ck hck st.n
  rw [touchOkC_eq hti hy.out hnR.out hck, hfo] at K1
  have hLI := hL.out.touch (t := st.tu) (by omega) hpx ck st.n
  have hlk1 := hL.out.lk _ hpx
  have hlk2 := touchSC_lk (r := R) (n := n) (s := S (pIx R st.tu)) (by omega) st.tu ck st.n
  have hlo := looks_le (i := pIx R st.tu) (d := 2) hL.out hp1.2.2 hpx (by omega) (by omega) (s' := touchSC R n (S (pIx R st.tu)) st.tu ck st.n) (by omega) (by omega)
  have hsr := sumF_rng (f := fun i => (S i).lk) hp1.2.2 fun i hi => by have := hL.out.lk i hi; omega
  rw [hlk.out] at hlo hsr
  have hw1 : wrap64 (lk + 2) = lk + 2 := by unfold wrap64; omega
  obtain ⟨fV, hfV⟩ : ∃ v, touchVC R n (S (pIx R st.tu)) st.tu ck st.n = v := ⟨_, rfl⟩
  rw [hfV] at K1 hfx
  obtain ⟨S', hS'⟩ : ∃ s, updS S (pIx R st.tu) (touchSC R n (S (pIx R st.tu)) st.tu ck st.n) = s := ⟨_, rfl⟩
  rw [hS'] at K1 hLI
  have hlo2 : sumF (fun j => (S' j).lk) p ≤ lk + 2 := by rw [← hS']; exact hlo
  obtain ⟨l2, hl2⟩ : ∃ v, sumF (fun j => (S' j).lk) p = v := ⟨_, rfl⟩
  rw [hl2] at hlo2
  have hgt : decide (lk + 2 < l2) = false := by simp; omega
  replace K1 := Lib.hid K1
  replace hfx := Lib.hid hfx
  replace hLI := Lib.hid hLI
  replace hl2 := Lib.hid hl2
  replace hK := Lib.hid hK
  clear hS' hfV hlk1 hlk2 hlo hsr hti K4 K5 hfo hlo2
  go_upto_region 34 with (go_at_call 18; (with_reducible refine K1.out.mono ?_); rintro e v2 ⟨rfl, hT2, hc2⟩)
  change Code.wp _ _ _ _ (v2.alloc (.cells fV.entA 52))
  have hal := below_alloc (Below.refl v2.heap.size v2) (.cells fV.entA 52)
  have V := Blk.new v2 52 fV.entA
  have S7 := (hS10.out.chg hc2 (fun e => e.2 (.inl (.inr rfl)))).call hal
  have hT7 := Lib.hid (hT2.call0 hal)
  have hc7 := Lib.hid (hc2.trans (G := fun _ => False) (Chg.of_below hal) (fun b _ h => h.elim))
  have hO7 := Lib.hid ((OwnA.chg hL10.out hc2 (fun b hb e => e.2 (.inr (by have := hIn.out b hb; omega)))).call hal)
  obtain ⟨rq, hrq⟩ : ∃ q, v2.heap.size = q := ⟨_, rfl⟩
  rw [hrq] at V
  try rw [hrq]
  generalize v2.alloc (.cells fV.entA 52) = w7 at *
  clear s0 s1 s2 s3 s4 s5 s6 s7 s8 s9 s10 s11 s12 s13 hT2 hc2 hal K1 hS10
  have LKS := Lib.hid fun W (hb : Below w7.heap.size w7 W) => tabsn_looks (hT7.out.call0 hb)
  rw [hl2.out] at LKS
  have FIN := Lib.hid fun W (hb : Below w7.heap.size w7 W) => REL.out W S' (hT7.out.call0 hb) (hc7.out.trans (G := fun _ => False) (Chg.of_below hb) (fun b _ h => h.elim)) (hLI.out.mono (by omega))
  cases fo
  · clear V S7
    go_wp2_with (go_at_call 27; (with_reducible refine (LKS.out _ (Below.refl _ _)).mono ?_); rintro e v3 ⟨rfl, hb3⟩)
    obtain ⟨r1, r2, r3, r4⟩ := FIN.out _ hb3
    go_roundg (go_ - 1)
    case measure => omega
    case rel => exact ⟨k + 1, _, A, q, cs, by omega, by go_num, rfl, r1, hnA, hcs.out, by omega, r2, r3, r4⟩
  · have hf1 := hfx.out rfl
    have hNE : ∀ W, (binOp .neq 47 fV.t.val st.tu.val).run Tryz.prog W = .ok (.bool false) W := fun W => by rw [tup_neq, hf1, tupB_self]; rfl
    have f0 : w7.cell? ⟨rq, 0, none⟩ = some (.int .i64 fV.t.p) := V.cell 0
    have f1 : w7.cell? ⟨rq, 1, none⟩ = some (.bool fV.t.v) := V.cell 1
    have f2 : w7.cell? ⟨rq, 2, none⟩ = some (.int .u64 fV.t.hi) := V.cell 2
    have f3 : w7.cell? ⟨rq, 3, none⟩ = some (.int .u64 fV.t.lo) := V.cell 3
    have f4 : w7.cell? ⟨rq, 4, none⟩ = some (.bool fV.t.v') := V.cell 4
    have f5 : w7.cell? ⟨rq, 5, none⟩ = some (.int .u64 fV.t.hi') := V.cell 5
    have f6 : w7.cell? ⟨rq, 6, none⟩ = some (.int .u64 fV.t.lo') := V.cell 6
    have f7 : w7.cell? ⟨rq, 7, none⟩ = some (.int .i64 fV.t.sp) := V.cell 7
    have f8 : w7.cell? ⟨rq, 8, none⟩ = some (.int .i64 fV.t.dp) := V.cell 8
    have f9 : w7.cell? ⟨rq, 9, none⟩ = some (.int .i64 fV.bk) := V.cell 9
    have f10 : w7.cell? ⟨rq, 10, none⟩ = some (.int .i64 fV.st) := V.cell 10
    have f11 : w7.cell? ⟨rq, 11, none⟩ = some (.int .i64 fV.sl) := V.cell 11
    have f12 : w7.cell? ⟨rq, 12, none⟩ = some (.int .u64 fV.gen) := V.cell 12
    have f13 : w7.cell? ⟨rq, 13, none⟩ = some (.int .i64 fV.due) := V.cell 13
    have s1 : w7.cell? ⟨rs, 1, none⟩ = some (.int .i64 st.tu.p) := S7.cell 1
    have s2 : w7.cell? ⟨rs, 2, none⟩ = some (.bool st.tu.v) := S7.cell 2
    have s3 : w7.cell? ⟨rs, 3, none⟩ = some (.int .u64 st.tu.hi) := S7.cell 3
    have s4 : w7.cell? ⟨rs, 4, none⟩ = some (.int .u64 st.tu.lo) := S7.cell 4
    have s5 : w7.cell? ⟨rs, 5, none⟩ = some (.bool st.tu.v') := S7.cell 5
    have s6 : w7.cell? ⟨rs, 6, none⟩ = some (.int .u64 st.tu.hi') := S7.cell 6
    have s7 : w7.cell? ⟨rs, 7, none⟩ = some (.int .u64 st.tu.lo') := S7.cell 7
    have s8 : w7.cell? ⟨rs, 8, none⟩ = some (.int .i64 st.tu.sp) := S7.cell 8
    have s9 : w7.cell? ⟨rs, 9, none⟩ = some (.int .i64 st.tu.dp) := S7.cell 9
    clear V S7 hf1
    go_wp2_with (go_at_call 27; (with_reducible refine (LKS.out _ (Below.refl _ _)).mono ?_); rintro e v3 ⟨rfl, hb3⟩)
    obtain ⟨r1, r2, r3, r4⟩ := FIN.out _ hb3
    go_roundg (go_ - 1)
    case measure => omega
    case rel => exact ⟨k + 1, _, A, q, cs, by omega, by go_num, rfl, r1, hnA, hcs.out, by omega, r2, r3, r4⟩
end Go.Proofs.YtbmmklgkbbbopaaGreat

namespace Go.Proofs.YtbmmklgkbbbopaaGreat
open Go Go.RowKit Go.Deep Go.Maps Go.ChangeMaps

theorem TabsN.push {w0 w w' : World} {g p n : Nat} {r : TRule} {S : Nat → TSt} {K : Nat → Prop} {A A' : Option Addr} (h : TabsN w0 w g r p n S K) (hP : Pushed w w' A A') (hA : ∀ b, InB A b → K b) (h0 : ∀ b, InB A b → w0.heap.size ≤ b) : TabsN w0 w' g r p n S (fun b => K b ∨ InB A' b) := by
  obtain ⟨k1, k2, k3, X, k4, k5⟩ := h
  refine ⟨k1, k2, below_chg k3 hP.chg (fun b hb hx => by have := h0 b hx; omega) k3.size, X, k4.chg hP.chg (fun b hx hf => (k5 b hx).2 (hA b hf)), fun b hx => ⟨(k5 b hx).1, fun hk => ?_⟩⟩
  rcases hk with hk | hk
  · exact (k5 b hx).2 hk
  · rcases hP.new b hk with h | h
    · exact (k5 b hx).2 (hA b h)
    · have := k4.lt hx
      omega
set_option maxRecDepth 100000 in
set_option maxHeartbeats 64000000 in
theorem tablesFind_yes_arm1_s1 : tablesFind_step.1 := by
  intro l d w h30 e30 e31 sb gb hsb12 p n hwf hn8 wd gn ka kb a b c d2 G hp hsm zz0 w0 rb hrb hrw w1 w3 w4 w5 g R hy hp1 hnR hnpR hR hLI0 zz1 zz2 u4 u9 u10 u11 u12 u13 u14 u15 u16 u17 u18 u19 u20 u21 u22 u23 u48 u49 u50 u51 u52 u53 u54 u55 u56 u57 u58 u59 u60 u61 u62 u63 u64 zz3 zz4 zz5 zz6 zz7 zz8 zz9 zz10 zz11 zz12 zz13 zz14 zz15 zz16 zz17 zz18 zz19 zz20 zz21 zz22 zz23 zz24 zz25 zz26 zz27 zz28 zz29 u92 u93 u94 u95 u96 u97 u98 u99 u100 u101 u102 u103 u104 u105 u106 u107 u108 u109 u110 u111 u112 u113 u114 u115 u116 u117 u118 u119 u120 u121 u122 u123 u124 u125 u126 u127 u128 u129 u130 u131 u132 u133 u134 u135 u136 u137 u138 u139 u140 u141 u142 u143 u144 u145 u146 u147 u148 u149 u150 u151 u152 u153 u154 u155 u156 u157 u158 u159 u160 u161 u162 u163 u164 u165 u166 u167 u168 u169 u170 u171 u172 u173 u174 u175 u176 u177 u178 u179 u180 u181 u182 u183 u184 u185 u186 u187 u188 u189 u190 u191 u192 u193 u194 u195 u196 u197 u198 u199 u200 u201 u202 u203 u204 u205 u206 u207 u208 u209 u210 u211 u212 u213 u214 u215 u216 u217 u218 u219 u220 u221 u222 u223 u224 u225 u226 zz30 zz31 k S A q cs hnA hcl hlt hlti ad st hr zz32 hL hwfs hcs zz33 zz34 rs hrbl hAl w6 hz1 ck hck w8 w9 A1 q1 hz8 hz9 hpx hIn LL hisF lk hLe hlk wo hrs go_ zz35 hk zz36 gk wr u65 u66 u67 u68 u69 u70 u71 u72 u73 u74 u75 u76 u77 u78 u79 u80 u81 u82 u83 u84 u85 u86 u87 u88 u89 u90 u91 zz37 zz38 zz39 zz40 hjl hjli hT10 hO10 hR10 hL10 hz10 hS10 hrw2 fo hfo zz41 zz42 zz43 zz44 s1 s2 s3 s4 s5 s6 s7 s8 s9 s10 s11 s12 s13 hK hlb REL K4 K5 s0 hkd
  have hti := hL.out.ti _ hpx
  have hLI := hL.out.open (t := st.tu) hy.out hnR.out (by omega) hpx st.bk st.n
  have K0 := tabsn_open hT10.out hK st.tu st.bk st.n
  clear K4 K5 hfo
  by_cases h0 : openE (S (pIx R st.tu)) st.tu st.bk st.n = 0
  · obtain ⟨k0, c0, hck0, hk0l, hf0, hv0, -, -, -, ht0, hbk0, -, -, -⟩ := open_found hy.out hnR.out hti st.tu st.bk st.n h0
    rw [h0, hck0] at K0
    obtain ⟨ov, hov⟩ : ∃ v, openV R.cfg (S (pIx R st.tu)) st.tu st.bk st.n = v := ⟨_, rfl⟩
    rw [hov] at K0 hv0 hbk0
    obtain ⟨s1', hs1'⟩ : ∃ v, openS R.cfg n (S (pIx R st.tu)) st.tu st.bk st.n = v := ⟨_, rfl⟩
    rw [hs1'] at K0 hv0 hf0 hLI
    replace K0 := Lib.hid K0
    replace hLI := Lib.hid hLI
    replace hbk0 := Lib.hid hbk0
    replace hK := Lib.hid hK
    clear hov hs1' ht0 hck0 h0 hti
    go_upto_region 26 with (go_at_call 14; (with_reducible refine K0.out.mono ?_); rintro e v2 ⟨rfl, hT2, hc2⟩)
    change Code.wp _ _ _ _ (v2.alloc (.cells ov.entA 52))
    have hal := below_alloc (Below.refl v2.heap.size v2) (.cells ov.entA 52)
    have V := Blk.new v2 52 ov.entA
    have S7 := (hS10.out.chg hc2 (fun e => e.2 (.inl (.inr rfl)))).call hal
    have hT7 := (hT2.call hal).mono (K' := fun b => ((K20 rb A b ∨ b = rs) ∨ rs + 1 ≤ b ∧ b < w9.heap.size) ∨ b = v2.heap.size) (fun b hb => hb.imp id fun e => ⟨by omega, by rw [World.size_alloc]; omega⟩)
    have hc7 : Chg (Nk w fun b => (K20 rb A b ∨ b = rs) ∨ rs + 1 ≤ b ∧ b < w9.heap.size) wr (v2.alloc (.cells ov.entA 52)) := hc2.trans (G := fun _ => False) (Chg.of_below hal) (fun b _ h => h.elim)
    have hz7 : wr.heap.size ≤ v2.heap.size ∧ (v2.alloc (.cells ov.entA 52)).heap.size = v2.heap.size + 1 := ⟨hc2.size, World.size_alloc _ _⟩
    obtain ⟨q5, hq5⟩ : ∃ q, v2.heap.size = q := ⟨_, rfl⟩
    rw [hq5] at V hT7 hz7
    try rw [hq5]
    generalize v2.alloc (.cells ov.entA 52) = w7 at *
    clear s0 s1 s2 s3 s4 s5 s6 s7 s8 s9 s10 s11 s12 s13 hT2 hc2 hal K0 hS10
    have hK7 : ∀ b, (((K20 rb A b ∨ b = rs) ∨ rs + 1 ≤ b ∧ b < w9.heap.size) ∨ b = q5) → b < w7.heap.size := fun b hb => by
      rcases hb with hb | hb
      · have := hK.out b hb
        omega
      · omega
    have K1 := tabsn_find hT7 hK7 st.tu k0 hk0l
    rw [updS_self, hf0, hv0] at K1
    have hLJ := hLI.out.find (t := st.tu) (by omega) hpx (k0 : Int)
    rw [updS_self, updS_updS] at hLJ
    rw [updS_updS] at K1
    obtain ⟨S', hS'⟩ : ∃ s, updS S (pIx R st.tu) (findSC R n s1' st.tu k0) = s := ⟨_, rfl⟩
    rw [hS'] at K1 hLJ
    have s1 : w7.cell? ⟨rs, 1, none⟩ = some (.int .i64 st.tu.p) := S7.cell 1
    have s2 : w7.cell? ⟨rs, 2, none⟩ = some (.bool st.tu.v) := S7.cell 2
    have s3 : w7.cell? ⟨rs, 3, none⟩ = some (.int .u64 st.tu.hi) := S7.cell 3
    have s4 : w7.cell? ⟨rs, 4, none⟩ = some (.int .u64 st.tu.lo) := S7.cell 4
    have s5 : w7.cell? ⟨rs, 5, none⟩ = some (.bool st.tu.v') := S7.cell 5
    have s6 : w7.cell? ⟨rs, 6, none⟩ = some (.int .u64 st.tu.hi') := S7.cell 6
    have s7 : w7.cell? ⟨rs, 7, none⟩ = some (.int .u64 st.tu.lo') := S7.cell 7
    have s8 : w7.cell? ⟨rs, 8, none⟩ = some (.int .i64 st.tu.sp) := S7.cell 8
    have s9 : w7.cell? ⟨rs, 9, none⟩ = some (.int .i64 st.tu.dp) := S7.cell 9
    replace K1 := Lib.hid K1
    replace hT7 := Lib.hid hT7
    replace hc7 := Lib.hid hc7
    replace V := Lib.hid V
    replace S7 := Lib.hid S7
    replace hK7 := Lib.hid hK7
    replace hLJ := Lib.hid hLJ
    clear hf0 hv0 hS'
    go_upto_region 27 with (go_at_call 16; (with_reducible refine K1.out.mono ?_); rintro e v3 ⟨rfl, hT3, hc3⟩)
    change Code.wp _ _ _ _ (v3.alloc (.cells ov.entA 52))
    have hal := below_alloc (Below.refl v3.heap.size v3) (.cells ov.entA 52)
    have V8 := Blk.new v3 52 ov.entA
    have V7 := (V.out.chg hc3 (fun e => e.2 (.inr rfl))).call hal
    have S8 := (S7.out.chg hc3 (fun e => e.2 (.inl (.inl (.inr rfl))))).call hal
    have hT8 := (hT3.call0 hal).mono (K' := fun b => (K20 rb A b ∨ b = rs) ∨ rs + 1 ≤ b ∧ b < w9.heap.size) (fun b hb => .inl hb)
    have hc8 : Chg (Nk w fun b => (K20 rb A b ∨ b = rs) ∨ rs + 1 ≤ b ∧ b < w9.heap.size) wr (v3.alloc (.cells ov.entA 52)) := (hc7.out.trans hc3 fun b hb e => ⟨e.1, fun h => e.2 (.inl h)⟩).trans (G := fun _ => False) (Chg.of_below hal) (fun b _ h => h.elim)
    have hz8' := hc3.size
    obtain ⟨q8, hq8⟩ : ∃ q, v3.heap.size = q := ⟨_, rfl⟩
    have hz9' : (v3.alloc (.cells ov.entA 52)).heap.size = q8 + 1 := by rw [World.size_alloc, hq8]
    rw [hq8] at V8 hz8'
    try rw [hq8]
    generalize v3.alloc (.cells ov.entA 52) = w8' at *
    clear s1 s2 s3 s4 s5 s6 s7 s8 s9 hT3 hc3 hal K1 S7 V hc7 hT7 hK7
    have hO8 := OwnA.chg hO10.out hc8 fun b hb e => e.2 (.inl (.inl (.inr hb)))
    have hR8 := hR10.out.chg hc8 fun e => e.2 (.inl (.inl (.inl rfl)))
    have hEN : ∀ W, (binOp .neq 52 ov.val ov.val).run Tryz.prog W = .ok (.bool false) W := fun W => by rw [ent_neq, entB_self]; rfl
    have hbb : (st.bk != st.bk) = false := by simp
    have s11 : w8'.cell? ⟨rs, 11, none⟩ = some (.int .i64 st.bk) := S8.cell 11
    have f0 : w8'.cell? ⟨q5, 0, none⟩ = some (.int .i64 ov.t.p) := V7.cell 0
    have f1 : w8'.cell? ⟨q5, 1, none⟩ = some (.bool ov.t.v) := V7.cell 1
    have f2 : w8'.cell? ⟨q5, 2, none⟩ = some (.int .u64 ov.t.hi) := V7.cell 2
    have f3 : w8'.cell? ⟨q5, 3, none⟩ = some (.int .u64 ov.t.lo) := V7.cell 3
    have f4 : w8'.cell? ⟨q5, 4, none⟩ = some (.bool ov.t.v') := V7.cell 4
    have f5 : w8'.cell? ⟨q5, 5, none⟩ = some (.int .u64 ov.t.hi') := V7.cell 5
    have f6 : w8'.cell? ⟨q5, 6, none⟩ = some (.int .u64 ov.t.lo') := V7.cell 6
    have f7 : w8'.cell? ⟨q5, 7, none⟩ = some (.int .i64 ov.t.sp) := V7.cell 7
    have f8 : w8'.cell? ⟨q5, 8, none⟩ = some (.int .i64 ov.t.dp) := V7.cell 8
    have f9 : w8'.cell? ⟨q5, 9, none⟩ = some (.int .i64 st.bk) := by rw [← hbk0.out]; exact V7.cell 9
    have f10 : w8'.cell? ⟨q5, 10, none⟩ = some (.int .i64 ov.st) := V7.cell 10
    have f11 : w8'.cell? ⟨q5, 11, none⟩ = some (.int .i64 ov.sl) := V7.cell 11
    have f12 : w8'.cell? ⟨q5, 12, none⟩ = some (.int .u64 ov.gen) := V7.cell 12
    have f13 : w8'.cell? ⟨q5, 13, none⟩ = some (.int .i64 ov.due) := V7.cell 13
    have h0 : w8'.cell? ⟨q8, 0, none⟩ = some (.int .i64 ov.t.p) := V8.cell 0
    have h1 : w8'.cell? ⟨q8, 1, none⟩ = some (.bool ov.t.v) := V8.cell 1
    have h2 : w8'.cell? ⟨q8, 2, none⟩ = some (.int .u64 ov.t.hi) := V8.cell 2
    have h3 : w8'.cell? ⟨q8, 3, none⟩ = some (.int .u64 ov.t.lo) := V8.cell 3
    have h4 : w8'.cell? ⟨q8, 4, none⟩ = some (.bool ov.t.v') := V8.cell 4
    have h5 : w8'.cell? ⟨q8, 5, none⟩ = some (.int .u64 ov.t.hi') := V8.cell 5
    have h6 : w8'.cell? ⟨q8, 6, none⟩ = some (.int .u64 ov.t.lo') := V8.cell 6
    have h7 : w8'.cell? ⟨q8, 7, none⟩ = some (.int .i64 ov.t.sp) := V8.cell 7
    have h8 : w8'.cell? ⟨q8, 8, none⟩ = some (.int .i64 ov.t.dp) := V8.cell 8
    have h9 : w8'.cell? ⟨q8, 9, none⟩ = some (.int .i64 st.bk) := by rw [← hbk0.out]; exact V8.cell 9
    have h10 : w8'.cell? ⟨q8, 10, none⟩ = some (.int .i64 ov.st) := V8.cell 10
    have h11 : w8'.cell? ⟨q8, 11, none⟩ = some (.int .i64 ov.sl) := V8.cell 11
    have h12 : w8'.cell? ⟨q8, 12, none⟩ = some (.int .u64 ov.gen) := V8.cell 12
    have h13 : w8'.cell? ⟨q8, 13, none⟩ = some (.int .i64 ov.due) := V8.cell 13
    replace hT8 := Lib.hid hT8
    replace hR8 := Lib.hid hR8
    replace hc8 := Lib.hid hc8
    clear V7 V8 S8
    have hbase : w.heap.size ≤ w8'.heap.size := by have := hT8.out.size; omega
    go_wp2_with (at_builtin; (refine wpList_push_u64 rfl (.tmp 174) (.tmp 176) rfl w.heap.size A q cs (k0 : Int) cs.length rfl rfl hO8 (q8 + 1) hz9'.symm rfl rfl (by omega) hbase ?_; intro A9 q9 w9' hO9 hP9))
    have hnw : ∀ b, InB A9 b → InB A b ∨ w8'.heap.size ≤ b := hP9.new
    have hT9 := (hT8.out.push hP9 (fun b hb => .inl (.inl (.inr hb))) (fun b hb => (hAl.out b hb).1)).mono (K' := K20 rb A9) fun b hb => hb.elim (fun e => .inl (.inl (.inl (.inl e)))) fun e => .inr e
    have hR9 := hR8.out.chg hP9.chg hnA
    have hn9 : ¬ InB A9 rb := fun e => by
      rcases hnw _ e with h | h
      · exact hnA h
      · omega
    go_roundg (go_ - 1)
    case measure => omega
    case rel => exact ⟨k + 1, S', A9, q9, cs ++ [(k0 : Int)], by omega, by go_num, by simp, hO9, hn9, fun x hx => by
      rcases List.mem_append.1 hx with h | h
      · exact hcs.out x h
      · obtain rfl := List.mem_singleton.1 h
        omega, by simp; omega, hT9, hLJ.out.mono (by omega), hR9⟩
  · rw [open_no h0, updS_same] at K0 hLI
    obtain ⟨oe, hoe⟩ : ∃ v, openE (S (pIx R st.tu)) st.tu st.bk st.n = v := ⟨_, rfl⟩
    rw [hoe] at K0 h0
    have h0b : (oe == 0) = false := by simpa using h0
    obtain ⟨ov, hov⟩ : ∃ v, openV R.cfg (S (pIx R st.tu)) st.tu st.bk st.n = v := ⟨_, rfl⟩
    obtain ⟨ock, hock⟩ : ∃ v, openCk R (S (pIx R st.tu)) st.tu st.bk st.n = v := ⟨_, rfl⟩
    rw [hov, hock] at K0
    have hLL : LL.length ≤ 1000 := by
      rw [← hLe.out]
      have h1 := ents_free hL.out.ti p (Nat.le_refl _)
      have h2 : p * n ≤ 16 * 8 := Nat.mul_le_mul hp1.2.2 hn8
      omega
    replace K0 := Lib.hid K0
    replace hLI := Lib.hid hLI
    replace hK := Lib.hid hK
    clear hov hock hoe h0 hti
    go_upto_region 30 with (go_at_call 14; (with_reducible refine K0.out.mono ?_); rintro e v2 ⟨rfl, hT2, hc2⟩)
    change Code.wp _ _ _ _ (v2.alloc (.cells ov.entA 52))
    have hal := below_alloc (Below.refl v2.heap.size v2) (.cells ov.entA 52)
    have hT7 := Lib.hid (hT2.call0 hal)
    have hc7 := Lib.hid (hc2.trans (G := fun _ => False) (Chg.of_below hal) (fun b _ h => h.elim))
    have hO7 := Lib.hid ((OwnA.chg hL10.out hc2 (fun b hb e => e.2 (.inr (by have := hIn.out b hb; omega)))).call hal)
    generalize v2.alloc (.cells ov.entA 52) = w7 at *
    clear s0 s1 s2 s3 s4 s5 s6 s7 s8 s9 s10 s11 s12 s13 hT2 hc2 hal K0 hS10
    have LVS := tabsn_live hT7.out
    rw [hLe.out] at LVS
    replace LVS := Lib.hid LVS
    have FIN := Lib.hid fun W (hb : Below w7.heap.size w7 W) => REL.out W S (hT7.out.call0 hb) (hc7.out.trans (G := fun _ => False) (Chg.of_below hb) (fun b _ h => h.elim)) (hLI.out.mono (by omega))
    go_wp2_with (first
      | (go_at_call 26; (with_reducible refine LVS.out.mono ?_); rintro e v4 ⟨A2, q2, rfl, hO4, hb4⟩)
      | (go_at_call 22; (with_reducible refine (same19 _ A2 A1 q2 q1 LL hO4.reads (hO7.out.call hb4).reads (by omega)).mono ?_); rintro e v5 ⟨rfl, hb5⟩))
    obtain ⟨r1, r2, r3, r4⟩ := FIN.out _ (below_chain hb5 hb4)
    go_roundg (go_ - 1)
    case measure => omega
    case rel => exact ⟨k + 1, _, A, q, cs, by omega, by go_num, rfl, r1, hnA, hcs.out, by omega, r2, r3, r4⟩
end Go.Proofs.YtbmmklgkbbbopaaGreat

namespace Go.Proofs.YtbmmklgkbbbopaaGreat
open Go Go.RowKit Go.Deep Go.Maps Go.ChangeMaps

/-- How many slots the first parts have free. -/
def freeN (S : Nat → TSt) (q : Nat) : Nat := ((List.range q).map fun i => (S i).L.length).sum
theorem freeN_succ (S : Nat → TSt) (q : Nat) : freeN S (q + 1) = freeN S q + (S q).L.length := by
  unfold freeN
  rw [List.range_succ, List.map_append, List.sum_append]
  simp
theorem freeN_le {S : Nat → TSt} {p n : Nat} (h : ∀ i, i < p → TI n (S i)) (q : Nat) (hq : q ≤ p) : freeN S q ≤ q * n := by
  have := ents_free h q hq
  unfold freeN
  omega
theorem wrap64_sum {a b c : Nat} (h : a + b = c) (hc : c ≤ 4 * 8) : wrap64 ((a : Int) + (b : Int)) = (c : Int) := by
  unfold wrap64
  omega
set_option maxRecDepth 100000 in
set_option maxHeartbeats 64000000 in
theorem tablesFind_yes_arm2 : tablesFind_pack.2.1 := by
  intro l B d w h30 e30 e31 sb gb hsb12 p n hr hwf hn8 wd gn ka kb a b c d2 G hp hsm zz0 w0 rb hrb hrw w1 w3 w4 w5 g R hy hp1 hnR hnpR hR hLI0 zz1 zz2 gk wr u4 u9 u10 u11 u12 u13 u14 u15 u16 u17 u18 u19 u20 u21 u22 u23 u48 u49 u50 u51 u52 u53 u54 u55 u56 u57 u58 u59 u60 u61 u62 u63 u64 u65 u66 u67 u68 u69 u70 u71 u72 u73 u74 u75 u76 u77 u78 u79 u80 u81 u82 u83 u84 u85 u86 u87 u88 u89 u90 u91 u92 u93 u94 u95 u96 u97 u98 u99 u100 u101 u102 u103 u104 u105 u106 u107 u108 u109 u110 u111 u112 u113 u114 u115 u116 u117 u118 u119 u120 u121 u122 u123 u124 u125 u126 u127 u128 u129 u130 u131 u132 u133 u134 u135 u136 u137 u138 u139 u140 u141 u142 u143 u144 u145 u146 u147 u148 u149 u150 u151 u152 u153 u154 u155 u156 u157 u158 u159 u160 u161 u162 u163 u164 u165 u166 u167 u168 u169 u170 u171 u172 u173 u174 u175 u176 u177 u178 u179 u180 u181 u182 u183 u184 u185 u186 u187 u188 u189 u190 u191 u192 u193 u194 u195 u196 u197 u198 u199 u200 u201 u202 u203 u204 u205 u206 u207 u208 u209 u210 u211 u212 u213 u214 u215 u216 u217 u218 u219 u220 u221 u222 u223 u224 u225 u226 zz3 zz4 zz5 zz6 k S A q cs hk hO hnA hcs hcl hT hL hRb hlt
  have hlti : ¬ (k : Int) < (l.length : Int) := by omega
  have hnlt : ¬ ((k : Int) < (l.length : Int)) := hlti
  have hsl : R.sl = (sb : Int) := by rw [← hR.out]
  have b1 : wr.cell? ⟨rb, 1, none⟩ = some (.int .i64 (sb : Int)) := by rw [← hsl]; exact hRb.cell 1
  have b5 : wr.cell? ⟨rb, 5, none⟩ = some (.int .i64 (p : Int)) := by rw [← hnpR.out]; exact hRb.cell 5
  have hsh : IntKind.i64.wrap (2 ^ sb) = (n : Int) := by
    have e1 : 2 ^ sb = n := by rw [hnR.out, hsl, Int.toNat_natCast]
    have e : ((2 : Int) ^ sb) = (n : Int) := by rw [← e1]; simp
    rw [e]
    simp [IntKind.wrap, IntKind.bits, IntKind.signed]
    omega
  have hpn : p * n ≤ 4 * 8 := Nat.mul_le_mul (by omega) hn8
  have hfr := Lib.hid fun (q : Nat) (hq : q ≤ p) => Nat.le_trans (freeN_le hL.ti q hq) (Nat.mul_le_mul_right n hq)
  have hsum : (entsL n p S).length + freeN S p = p * n := ents_free hL.ti p (Nat.le_refl _)
  have hbl := hT.below
  have FR := Lib.hid fun (j : Nat) => tabsn_free hT j
  have LV := Lib.hid (tabsn_live hT.drew)
  replace hT := Lib.hid hT
  replace hsum := Lib.hid hsum
  clear hO hRb hL hcs hr hwf hLI0 hy
  go_upto_region 41 with fail
  go_wp2_with fail
  go_loopg [24, 25] p (fun g3 av iv wx => ∃ j : Nat, j + g3 = p ∧ iv = .int .i64 (j : Nat) ∧ av = .int .i64 (freeN S j : Nat) ∧ wr = wx)
  case atStart => exact ⟨0, by omega, rfl, rfl, rfl⟩
  case round =>
    obtain ⟨j, hj, rfl, rfl, rfl⟩ := hrel
    by_cases hjp : j < p
    · have hji : (j : Int) < (p : Int) := by omega
      have F1 := FR.out j
      unfold freeI at F1
      rw [if_pos (by omega), Int.toNat_natCast] at F1
      have hs1 := freeN_succ S j
      have hs2 := hfr.out (j + 1) (by omega)
      obtain ⟨m, hm⟩ : ∃ m, (S j).L.length = m := ⟨_, rfl⟩
      rw [hm] at F1 hs1
      have hws : wrap64 ((freeN S j : Int) + (m : Int)) = ((freeN S (j + 1) : Nat) : Int) := by unfold wrap64; omega
      replace F1 := Lib.hid F1
      clear hs1 hs2 hm
      go_wp2_with (go_at_call 29; (with_reducible refine F1.out.mono ?_); rintro e w8 ⟨rfl, rfl⟩)
      go_roundg (gk - 1)
      case measure => omega
      case rel => exact ⟨j + 1, by omega, by go_num, by rw [hws], rfl⟩
    · obtain rfl : j = p := by omega
      have hji : ¬ (j : Int) < (j : Int) := by omega
      obtain ⟨LL, hLe⟩ : ∃ LL, entsL n j S = LL := ⟨_, rfl⟩
      rw [hLe] at LV hsum
      obtain ⟨fn, hfn⟩ : ∃ m, freeN S j = m := ⟨_, rfl⟩
      rw [hfn] at hsum
      rw [hfn]
      obtain ⟨pn, hpn2⟩ : ∃ m, j * n = m := ⟨_, rfl⟩
      rw [hpn2] at hsum hpn
      have heq : IntKind.i64.wrap ((fn : Int) + (LL.length : Int)) = IntKind.i64.wrap ((j : Int) * (n : Int)) := by
        rw [← Int.natCast_mul, ← Int.natCast_add, show fn + LL.length = j * n from by rw [hpn2]; have := hsum.out; omega]
      replace heq := Lib.hid heq
      have hSt : wr.drew.cell? ⟨rb, 1, none⟩ = some (.int .i64 (sb : Int)) ∧ wr.drew.cell? ⟨rb, 5, none⟩ = some (.int .i64 (j : Int)) := ⟨b1, b5⟩
      have hd : Below wr.heap.size wr wr.drew := (Below.refl _ _).drew
      clear hLe hfn hpn2 hpn FR hfr hsum
      go_upto_region 45 with fail
      clear b1 b5
      refine wp_region_held_drew (S := fun W => W.cell? ⟨rb, 1, none⟩ = some (.int .i64 (sb : Int)) ∧ W.cell? ⟨rb, 5, none⟩ = some (.int .i64 (j : Int))) (by kernel_rfl) hSt (fun hHeld => ?_)
      have hcall := Lib.hid fun (W W' : World) (h : W.cell? ⟨rb, 1, none⟩ = some (.int .i64 (sb : Int)) ∧ W.cell? ⟨rb, 5, none⟩ = some (.int .i64 (j : Int))) (hb : Below W.heap.size W W') => (show W'.cell? ⟨rb, 1, none⟩ = some (.int .i64 (sb : Int)) ∧ W'.cell? ⟨rb, 5, none⟩ = some (.int .i64 (j : Int)) from ⟨(hb.cell (block_lt_of_cell h.1)).trans h.1, (hb.cell (block_lt_of_cell h.2)).trans h.2⟩)
      generalize wr.drew = wq at *
      (refine' takeH 0 (v := _) rfl (by kernel_rfl) (by kernel_rfl) (by kernel_rfl) (fun _ _ _ h => h) (Or.inl ⟨by rfl, ?_⟩) (by assumption) ?_; rotate_left; · ((intro w hSw; (try dsimp only at hSw); go_simp) <;> with_reducible rfl)); try go_frame
      (refine' takeH 1 (v := _) rfl (by kernel_rfl) (by kernel_rfl) (by kernel_rfl) (fun _ _ _ h => h) (Or.inl ⟨by rfl, ?_⟩) (by assumption) ?_; rotate_left; · ((intro w hSw; (try dsimp only at hSw); go_simp) <;> with_reducible rfl)); try go_frame
      (refine' takeH 5 (v := _) rfl (by kernel_rfl) (by kernel_rfl) (by kernel_rfl) (fun _ _ _ h => h) (Or.inl ⟨by rfl, ?_⟩) (by assumption) ?_; rotate_left; · ((intro w hSw; (try dsimp only at hSw); go_simp) <;> with_reducible rfl)); try go_frame
      (refine' takeH 6 (v := _) rfl (by kernel_rfl) (by kernel_rfl) (by kernel_rfl) (fun _ _ _ h => h) (Or.inl ⟨by rfl, ?_⟩) (by assumption) ?_; rotate_left; · ((intro w hSw; (try dsimp only at hSw); go_simp) <;> with_reducible rfl)); try go_frame
      (refine' takeH 7 (v := _) rfl (by kernel_rfl) (by kernel_rfl) (by kernel_rfl) (fun _ _ _ h => h) (Or.inl ⟨by rfl, ?_⟩) (by assumption) ?_; rotate_left; · ((intro w hSw; (try dsimp only at hSw); go_simp) <;> with_reducible rfl)); try go_frame
      (refine' takeH 8 (v := _) rfl (by kernel_rfl) (by kernel_rfl) (by kernel_rfl) (fun _ _ _ h => h) (Or.inl ⟨by rfl, ?_⟩) (by assumption) ?_; rotate_left; · ((intro w hSw; (try dsimp only at hSw); go_simp) <;> with_reducible rfl)); try go_frame
      (refine' takeH 9 (v := _) rfl (by kernel_rfl) (by kernel_rfl) (by kernel_rfl) (fun _ _ _ h => h) (Or.inl ⟨by rfl, ?_⟩) (by assumption) ?_; rotate_left; · ((intro w hSw; (try dsimp only at hSw); go_simp) <;> with_reducible rfl)); try go_frame
      (refine' takeH 10 (v := _) rfl (by kernel_rfl) (by kernel_rfl) (by kernel_rfl) (fun _ _ _ h => h) (Or.inl ⟨by rfl, ?_⟩) (by assumption) ?_; rotate_left; · ((intro w hSw; (try dsimp only at hSw); go_simp) <;> with_reducible rfl)); try go_frame
      (refine' takeH 11 (v := _) rfl (by kernel_rfl) (by kernel_rfl) (by kernel_rfl) (fun _ _ _ h => h) (Or.inl ⟨by rfl, ?_⟩) (by assumption) ?_; rotate_left; · ((intro w hSw; (try dsimp only at hSw); go_simp) <;> with_reducible rfl)); try go_frame
      refine wpAnyH_ready (rs := [2]) (by kernel_rfl) (by simp) ?_; refine consH rfl (fun K hK => ?_) AllReadyH.nil
      go_simp
      (go_at_call 26; (with_reducible refine LV.out.mono ?_))
      rintro e w5 ⟨A5, q5, rfl, -, hb5⟩
      refine hK.out _ _ (hcall.out _ _ hHeld hb5) (fun hHeld => ?_)
      clear hK K
      try go_frame
      (refine' takeH 3 (v := _) rfl (by kernel_rfl) (by kernel_rfl) (by kernel_rfl) (fun _ _ _ h => h) (Or.inl ⟨by rfl, ?_⟩) (by assumption) ?_; rotate_left; · ((intro w hSw; (try dsimp only at hSw); go_simp) <;> with_reducible rfl)); try go_frame
      (refine' takeH 4 (v := _) rfl (by kernel_rfl) (by kernel_rfl) (by kernel_rfl) (fun _ _ _ h => h) (Or.inl ⟨by rfl, ?_⟩) (by assumption) ?_; rotate_left; · ((intro w hSw; (try dsimp only at hSw); go_simp) <;> with_reducible rfl)); try go_frame
      rw [heq.out]
      generalize IntKind.i64.wrap ((j : Int) * (n : Int)) = pw at *
      (refine' takeH 12 (v := _) rfl (by kernel_rfl) (by kernel_rfl) (by kernel_rfl) (fun _ _ _ h => h) (Or.inl ⟨by rfl, ?_⟩) (by assumption) ?_; rotate_left; · ((intro w hSw; (try dsimp only at hSw); go_simp) <;> with_reducible rfl)); try go_frame
      (refine' takeH 13 (v := _) rfl (by kernel_rfl) (by kernel_rfl) (by kernel_rfl) (fun _ _ _ h => h) (Or.inl ⟨by rfl, ?_⟩) (by assumption) ?_; rotate_left; · ((intro w hSw; (try dsimp only at hSw); go_simp) <;> with_reducible rfl)); try go_frame
      refine wpAnyH_ready (rs := [14]) (by kernel_rfl) (by simp) ?_; refine consH rfl (fun K hK => ?_) AllReadyH.nil
      go_simp
      (go_at_call 8; (with_reducible refine (awake20 _).mono ?_))
      rintro e w6 ⟨rfl, hb6⟩
      refine hK.out _ _ (hcall.out _ _ hHeld hb6) (fun hHeld => ?_)
      clear hK K
      try go_frame
      (refine' takeH 15 (v := _) rfl (by kernel_rfl) (by kernel_rfl) (by kernel_rfl) (fun _ _ _ h => h) (Or.inl ⟨by rfl, ?_⟩) (by assumption) ?_; rotate_left; · ((intro w hSw; (try dsimp only at hSw); go_simp) <;> with_reducible rfl)); try go_frame
      (refine' takeH 16 (v := _) rfl (by kernel_rfl) (by kernel_rfl) (by kernel_rfl) (fun _ _ _ h => h) (Or.inl ⟨by rfl, ?_⟩) (by assumption) ?_; rotate_left; · ((intro w hSw; (try dsimp only at hSw); go_simp) <;> with_reducible rfl)); try go_frame
      refine wpAnyH_done (by kernel_rfl) ?_ _
      clear hHeld
      go_wp2_with fail
      go_ret
      exact ⟨rfl, by rw [← hrb]; exact below_chain hb6 (below_chain hb5 (below_chain hd hbl))⟩
end Go.Proofs.YtbmmklgkbbbopaaGreat

namespace Go.Proofs.YtbmmklgkbbbopaaGreat
open Go Go.RowKit Go.Deep Go.Maps Go.ChangeMaps

theorem tablesFind_calls (r : TRule) (l : List T20) (B : Option Addr) (d : Nat) (w : World) (hr : Reads w w.heap.size 14 B l.length (l.flatMap T20.cells)) (hwf : ∀ s ∈ l, t20Wf s) :
    Calls Tryz.prog 4 #[r.val, .slice B l.length d] w fun e w' => e = .returned (.bool true) ∧ Below w.heap.size w w' := by
  by_cases h : ruleOk r = false ∨ small20 r = false ∨ 30 < l.length
  · exact tablesFind_no r l B d w h
  · have h1 : ruleOk r = true := by
      cases e : ruleOk r
      · exact absurd (.inl e) h
      · rfl
    have h2 : small20 r = true := by
      cases e : small20 r
      · exact absurd (.inr (.inl e)) h
      · rfl
    exact tablesFind_pack.2.2 (Lib.hid (tablesFind_step.2.2.2 (Lib.hid tablesFind_yes_arm1_s1) (Lib.hid tablesFind_yes_arm1_s2) (Lib.hid tablesFind_yes_arm1_s3))) (Lib.hid tablesFind_yes_arm2) r l B d w hr hwf h1 h2 (by
      by_cases e : 30 < l.length
      · exact absurd (.inr (.inr e)) h
      · omega)
end Go.Proofs.YtbmmklgkbbbopaaGreat
