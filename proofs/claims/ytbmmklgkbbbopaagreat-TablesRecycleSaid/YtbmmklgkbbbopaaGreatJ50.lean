/- tables: the law TablesRecycle, called: what a cookie finds. tables: the law TablesRecycle, called: its end. tables: the law TablesRecycle, called: all of it. -/
import Derived.Test.YtbmmklgkbbbopaaGreatJ49
import Derived.Test.YtbmmklgkbbbopaaGreatJ48
namespace Go.Proofs.YtbmmklgkbbbopaaGreat
open Go Go.RowKit Go.Deep Go.Maps Go.ChangeMaps

set_option maxRecDepth 100000 in
set_option maxHeartbeats 64000000 in
theorem tablesRecycle_yes_arm3_s2 : tablesRecycle_end.2.1 := by
  intro l B d w h30 e30 e31 sb gb hsb12 p n hn8 wd gn ka kb a b c d2 G hp hsm zz0 w0 rb hrb hrw w1 w3 w4 w5 g R hy hp1 hnR hnpR hR zz1 yy0 u10 u11 u12 u13 u43 u44 u45 u46 u47 u48 u49 u50 u51 u52 u53 u54 u55 u56 u57 u58 u59 u60 u61 u62 u63 u64 u65 u66 u67 u68 u69 u70 u71 u72 u73 u74 u75 u76 u77 u78 u79 u80 u81 u82 u83 u84 u85 u86 u87 u88 u89 u90 u91 u92 u93 u94 u95 u96 u97 u98 u99 u100 u101 zz3 zz4 zz5 zz6 k S A q q2 cs O hk hnA hcl hlt hOl hcs hpx yy1 yy2 w2 A1 q1 hlti yy3 yy4 LL hLL wo hb2 hIn u4 u16 u17 u18 u19 u20 u104 u105 u106 u107 u108 u109 u110 u111 u112 u113 yy5 yy6 yy7 yy8 yy9 yy10 yy11 yy12 yy13 yy14 yy15 yy16 yy17 yy18 yy19 yy20 yy21 yy22 yy23 yy24 yy25 yy26 yy27 yy28 yy29 yy30 yy31 yy32 yy33 yy34 yy35 yy36 yy37 yy38 yy39 yy40 yy41 u151 u152 u153 u154 u155 u156 u157 u158 u159 u160 u161 u162 u163 u164 u165 u166 u167 u168 u169 u170 u171 u172 u173 u174 u175 u176 u177 u178 u179 u180 u181 u182 u183 u184 u185 u186 u187 u188 u189 u190 u191 u192 u193 u194 u195 u196 u197 u198 u199 u200 u201 u202 u203 u204 u205 u206 u207 u208 u209 u210 u211 u212 u213 u214 u215 u216 u217 u218 u219 u220 u221 u222 u223 yy42 yy43 m S' hml hmli a2 hnA2 hdA hK3 KP yy44 x hEnd hHs hH hE yy45 yy46 q6 hzc w6 hc1 hza hT1 X0 wp hbl2 hq6 go_ yy47 hm hOE yy48 yy49 gk wr u114 u115 u116 u117 u118 u119 u120 u121 u122 u123 u124 u125 u126 u127 u128 u129 u130 u131 u132 u133 u134 u135 u136 u137 u138 u139 u140 u141 u142 u143 u144 u145 u146 u147 u148 u149 u150 yy50 yy51 yy52 yy53 hbx X1 hj hjl hjli
  have hHo := hH.out
  have hw2w : w.heap.size ≤ w2.heap.size := by have := hK3.out rb (.inl (.inl rfl)); omega
  have hml2 : m < cs.length := by rw [← hHo.len]; exact hml
  have hcm := hcs.out (cs.getD m 0) (by rw [List.getD_eq_getElem?_getD, List.getElem?_eq_getElem hml2]; exact List.getElem_mem hml2)
  obtain ⟨ck, hck⟩ : ∃ ck : Nat, cs.getD m 0 = ck := ⟨(cs.getD m 0).toNat, by omega⟩
  have hckl : ck < 18446744073709551616 := by omega
  obtain ⟨hA, hB⟩ := hEnd.out ck hck hckl
  rw [hE.out] at hA hB
  obtain ⟨gB, hgB, hgB63⟩ : ∃ B : Nat, R.gn = B ∧ B ≤ 63 := by
    obtain ⟨A', B', e1, e2, -, e3⟩ := layOk_nat (ruleOk_lay hy.out)
    exact ⟨B', e2, by split at e3 <;> omega⟩
  have hpi := hpx.out x.t
  have hcw := hc1.out.trans (G := fun _ => False) (Chg.of_below hbx) (fun b _ h => h.elim)
  obtain ⟨p1, -, -, p4⟩ := KP.out _ hcw
  have hrd := p1.reads
  rw [flat_u64] at hrd
  obtain ⟨a9, rfl, hbl9, hcc⟩ := hrd.intk_at hml2
  rw [hck] at hcc
  have hT3 := hT1.out.call0 hbx
  have hKq : ∀ b, ((K22 rb (some a9) (some a2) b ∨ wo.heap.size ≤ b ∧ b < w2.heap.size) ∨ b = q6) → b < wr.heap.size := fun b hb => by
    have := hbx.size
    rcases hb with hb | hb
    · have := hK3.out b hb
      omega
    · omega
  have K1 := Lib.hid fun W (hb : Below wr.heap.size wr W) => tabsn_find (hT3.call hb) (fun b h => by
    have := hb.size
    rcases h with h | h
    · have := hKq b h
      omega
    · omega) x.t ck hckl
  have CK := Lib.hid fun W (hc : Chg (Nk w fun b => K22 rb (some a9) (some a2) b ∨ wo.heap.size ≤ b ∧ b < w2.heap.size) w2 W) => show W.cell? (a9.add m) = some (.int .u64 (ck : Int)) from by
    have h1 := (KP.out _ hc).1.reads
    rw [flat_u64] at h1
    obtain ⟨a', e, -, h2⟩ := h1.intk_at hml2
    rw [hck] at h2
    injection e with e
    rw [e]
    exact h2
  have hHI : HI R p n (updS S' (pIx R x.t) (findSC R n (S' (pIx R x.t)) x.t ck)) (2 * (k : Int) + m + 1) (k : Int) O cs := hHo.same (hHo.li.find (by omega) hpi ck) fun i => by
    by_cases e : i = pIx R x.t
    · rw [e, updS_self]
      exact (findSC_eq _ _ _).1
    · rw [updS_ne _ _ e]
  have hE2 : entsL n p (updS S' (pIx R x.t) (findSC R n (S' (pIx R x.t)) x.t ck)) = LL := (entsL_upd (findSC_eq _ _ _).1).trans hE.out
  obtain ⟨fV, hfV⟩ : ∃ v, findVC R n (S' (pIx R x.t)) x.t ck = v := ⟨_, rfl⟩
  obtain ⟨fo, hfo⟩ : ∃ v, findOkC R n (S' (pIx R x.t)) x.t ck = v := ⟨_, rfl⟩
  obtain ⟨S2, hS2⟩ : ∃ v, updS S' (pIx R x.t) (findSC R n (S' (pIx R x.t)) x.t ck) = v := ⟨_, rfl⟩
  rw [hfV, hfo, hS2] at K1
  rw [hfo] at hA
  rw [hfV, hfo] at hB
  rw [hS2] at hHI hE2
  obtain ⟨is_, his⟩ : ∃ v, isG LL x = v := ⟨_, rfl⟩
  rw [his] at hA hB
  rw [his]
  have hx0 := hHs.out.g0
  have hd : Below wr.heap.size wr wr.drew := (Below.refl _ _).drew
  have hSt : wr.drew.cell? (a9.add m) = some (.int .u64 (ck : Int)) ∧ TupAt q6 x.t wr.drew := ⟨hcc, ⟨X1.cell 0, X1.cell 1, X1.cell 2, X1.cell 3, X1.cell 4, X1.cell 5, X1.cell 6, X1.cell 7, X1.cell 8⟩⟩
  have hcl2 : (m : Int) < (cs.length : Int) := by omega
  replace hA := Lib.hid hA
  replace hB := Lib.hid hB
  replace hHI := Lib.hid hHI
  replace hE2 := Lib.hid hE2
  replace p4 := Lib.hid p4
  replace hcw := Lib.hid hcw
  replace hx0 := Lib.hid hx0
  replace X1 := Lib.hid X1
  have hz6 : q6 < wr.heap.size := X1.out.lt
  replace hKq := Lib.hid hKq
  have hw2l := hcw.out.size
  have FIN := Lib.hid fun (W w5 : World) (hb : Below wr.heap.size wr W) (hT5 : TabsN w w5 g R p n S2 (fun b => ((K22 rb (some a9) (some a2) b ∨ wo.heap.size ≤ b ∧ b < w2.heap.size) ∨ b = q6) ∨ wr.heap.size ≤ b ∧ b < W.heap.size)) (hc5 : Chg (Nk w fun b => ((K22 rb (some a9) (some a2) b ∨ wo.heap.size ≤ b ∧ b < w2.heap.size) ∨ b = q6) ∨ wr.heap.size ≤ b ∧ b < W.heap.size) W w5) =>
    show (w5.cell? (a9.add m) = some (.int .u64 (ck : Int)) ∧ TupAt q6 x.t w5) ∧ ∀ (q9 : Nat) (wX : World), Below w5.heap.size w5 wX → wr.heap.size ≤ q9 → (q9 < W.heap.size ∨ w5.heap.size ≤ q9) → Blk wX q9 52 slt0.entA →
      ((setEnt wX q9 fV).cell? (a9.add m) = some (.int .u64 (ck : Int)) ∧ TupAt q6 x.t (setEnt wX q9 fV)) ∧ Blk (setEnt wX q9 fV) q9 52 fV.entA ∧ TabsN w (setEnt wX q9 fV) g R p n S2 (fun b => K22 rb (some a9) (some a2) b ∨ wo.heap.size ≤ b ∧ b < w2.heap.size) ∧ Chg (Nk w fun b => K22 rb (some a9) (some a2) b ∨ wo.heap.size ≤ b ∧ b < w2.heap.size) w2 (setEnt wX q9 fV) ∧ Blk (setEnt wX q9 fV) q6 52 x.entA from by
    have hc6 : Chg (Nk w fun b => K22 rb (some a9) (some a2) b ∨ wo.heap.size ≤ b ∧ b < w2.heap.size) w2 w5 := (hcw.out.trans (G := fun _ => False) (Chg.of_below hb) (fun b _ h => h.elim)).trans hc5 fun b _ h => ⟨h.1, fun e => h.2 (.inl (.inl e))⟩
    have hX5 : Blk w5 q6 52 x.entA := (X1.out.call hb).chg hc5 fun e => e.2 (.inl (.inr rfl))
    refine ⟨⟨CK.out _ hc6, ⟨hX5.cell 0, hX5.cell 1, hX5.cell 2, hX5.cell 3, hX5.cell 4, hX5.cell 5, hX5.cell 6, hX5.cell 7, hX5.cell 8⟩⟩, fun q9 wX hX hq1 hq hBq => ?_⟩
    obtain ⟨e1, e2⟩ := setEnt_blk hBq fV
    have hlq := hBq.lt
    have hzX := hX.size
    have hw1 : w.heap.size ≤ w2.heap.size := hw2w
    have hT6 := hT5.call hX
    have hT7 := hT6.chg e2 (fun b hb2 => by
      have e3 : b = q9 := hb2
      subst e3
      rcases hq with h | h
      · exact .inl (.inr ⟨hq1, h⟩)
      · exact .inr ⟨h, hlq⟩) fun b hb2 => by
      have e3 : b = q9 := hb2
      omega
    have hc7 : Chg (Nk w fun b => K22 rb (some a9) (some a2) b ∨ wo.heap.size ≤ b ∧ b < w2.heap.size) w2 (setEnt wX q9 fV) := (hc6.trans (G := fun _ => False) (Chg.of_below hX) (fun b _ h => h.elim)).trans e2 fun b hb2 e => by
      have e3 : b = q9 := e
      omega
    have hX7 : Blk (setEnt wX q9 fV) q6 52 x.entA := (hX5.call hX).chg e2 fun e => by
      have e3 : q6 = q9 := e
      omega
    exact ⟨⟨CK.out _ hc7, ⟨hX7.cell 0, hX7.cell 1, hX7.cell 2, hX7.cell 3, hX7.cell 4, hX7.cell 5, hX7.cell 6, hX7.cell 7, hX7.cell 8⟩⟩, e1, hT7.mono (fun b h => .inl (.inl (.inl h))), hc7, hX7⟩
  clear hS2 hfV hfo his hHo hcm hck hrd p1 hcc hT3 hEnd hH hE hT1 hbl9
  go_upto_region 34 with fail
  go_cut [19, 20] from 151 to 223 (fun x19 x20 wx => ∃ q9, x19 = .pointer (some ⟨q9, 0, none⟩) ∧ x20 = .bool fo ∧ Blk wx q9 52 fV.entA ∧ TabsN w wx g R p n S2 (fun b => K22 rb (some a9) (some a2) b ∨ wo.heap.size ≤ b ∧ b < w2.heap.size) ∧ Chg (Nk w fun b => K22 rb (some a9) (some a2) b ∨ wo.heap.size ≤ b ∧ b < w2.heap.size) w2 wx ∧ Blk wx q6 52 x.entA)
  case first =>
   as_aux_lemma =>
    have hSc := Lib.hid fun (W W' : World) (h : W.cell? (a9.add m) = some (.int .u64 (ck : Int)) ∧ TupAt q6 x.t W) (hb : Below W.heap.size W W') => (show W'.cell? (a9.add m) = some (.int .u64 (ck : Int)) ∧ TupAt q6 x.t W' from ⟨(hb.cell (block_lt_of_cell h.1)).trans h.1, h.2.call hb⟩)
    refine wp_region_held_drew (S := fun W => W.cell? (a9.add m) = some (.int .u64 (ck : Int)) ∧ TupAt q6 x.t W) (by kernel_rfl) hSt (fun hHeld => ?_)
    have hwd : wr.drew.heap.size = wr.heap.size := rfl
    generalize wr.drew = wq at *
    (refine' takeH 0 (v := _) rfl (by kernel_rfl) (by kernel_rfl) (by kernel_rfl) (fun _ _ _ h => h) (Or.inl ⟨by rfl, ?_⟩) (by assumption) ?_; rotate_left; · ((intro w hSw; (try dsimp only at hSw); go_simp) <;> with_reducible rfl)); try go_frame
    (refine' takeH 1 (v := _) rfl (by kernel_rfl) (by kernel_rfl) (by kernel_rfl) (fun _ _ _ h => h) (Or.inl ⟨by rfl, ?_⟩) (by assumption) ?_; rotate_left; · ((intro w hSw; (try dsimp only at hSw); go_simp) <;> with_reducible rfl)); try go_frame
    (refine' takeH 2 (v := _) rfl (by kernel_rfl) (by kernel_rfl) (by kernel_rfl) (fun _ _ _ h => h) (Or.inl ⟨by rfl, ?_⟩) (by assumption) ?_; rotate_left; · ((intro w hSw; (try dsimp only at hSw); go_simp) <;> with_reducible rfl)); try go_frame
    (refine' takeH 3 (v := _) rfl (by kernel_rfl) (by kernel_rfl) (by kernel_rfl) (fun _ _ _ h => h) (Or.inl ⟨by rfl, ?_⟩) (by assumption) ?_; rotate_left; · ((intro w hSw; (try dsimp only at hSw); go_simp) <;> with_reducible rfl)); try go_frame
    (refine' takeH 4 (v := _) rfl (by kernel_rfl) (by kernel_rfl) (by kernel_rfl) (fun _ _ _ h => h) (Or.inl ⟨by rfl, ?_⟩) (by assumption) ?_; rotate_left; · ((intro w hSw; (try dsimp only at hSw); go_simp) <;> with_reducible rfl)); try go_frame
    (refine' takeH 5 (v := _) rfl (by kernel_rfl) (by kernel_rfl) (by kernel_rfl) (fun _ _ _ h => h) (Or.inl ⟨by rfl, ?_⟩) (by assumption) ?_; rotate_left; · ((intro w hSw; (try dsimp only at hSw); go_simp) <;> with_reducible rfl)); try go_frame
    (refine' takeH 6 (v := _) rfl (by kernel_rfl) (by kernel_rfl) (by kernel_rfl) (fun _ _ _ h => h) (Or.inl ⟨by rfl, ?_⟩) (by assumption) ?_; rotate_left; · ((intro w hSw; (try dsimp only at hSw); go_simp) <;> with_reducible rfl)); try go_frame
    refine wpAnyH_ready (rs := [7, 11]) (by kernel_rfl) (by simp) ?_; refine consH rfl (fun K hK => ?_) (consH rfl (fun K hK => ?_) AllReadyH.nil)
    · go_simp
      (go_at_call 16; (with_reducible refine (K1.out _ hd).mono ?_))
      rintro e w5 ⟨rfl, hT5, hc5⟩
      obtain ⟨s5, FN⟩ := FIN.out _ _ hd hT5 hc5
      refine hK.out _ _ s5 (fun hHeld => ?_)
      clear hK K
      try go_frame
      (refine' takeH 8 (v := _) rfl (by kernel_rfl) (by kernel_rfl) (by kernel_rfl) (fun _ _ _ h => h) (Or.inl ⟨by rfl, ?_⟩) (by assumption) ?_; rotate_left; · ((intro w hSw; (try dsimp only at hSw); go_simp) <;> with_reducible rfl)); try go_frame
      (refine' takeH 9 (v := _) rfl (by kernel_rfl) (by kernel_rfl) (by kernel_rfl) (fun _ _ _ h => h) (Or.inl ⟨by rfl, ?_⟩) (by assumption) ?_; rotate_left; · ((intro w hSw; (try dsimp only at hSw); go_simp) <;> with_reducible rfl)); try go_frame
      (refine' takeH 10 (v := _) rfl (by kernel_rfl) (by kernel_rfl) (by kernel_rfl) (fun _ _ _ h => h) (Or.inl ⟨by rfl, ?_⟩) (by assumption) ?_; rotate_left; · ((intro w hSw; (try dsimp only at hSw); go_simp) <;> with_reducible rfl)); try go_frame
      refine wpAnyH_ready (rs := [11]) (by kernel_rfl) (by simp) ?_; refine consH rfl (fun K hK => ?_) AllReadyH.nil
      go_simp
      refine hK.out _ _ (hSc.out _ _ hHeld (below_alloc (Below.refl _ _) _)) (fun hHeld => ?_)
      clear hK K
      try go_frame
      refine wpAnyH_ready (rs := [12]) (by kernel_rfl) (by simp) ?_; refine consH rfl (fun K hK => ?_) AllReadyH.nil
      rw [if_pos (by rfl)]
      have BQ : Blk (w5.alloc (.cells #[.int .i64 0, .bool false, .int .u64 0, .int .u64 0, .bool false, .int .u64 0, .int .u64 0, .int .i64 0, .int .i64 0, .int .i64 0, .int .i64 0, .int .i64 0, .int .u64 0, .int .i64 0] 52)) w5.heap.size 52 slt0.entA := Blk.new w5 52 slt0.entA
      have hzz := hc5.size
      obtain ⟨f1, f2, f3, f4, f5⟩ := FN w5.heap.size (w5.alloc (.cells #[.int .i64 0, .bool false, .int .u64 0, .int .u64 0, .bool false, .int .u64 0, .int .u64 0, .int .i64 0, .int .i64 0, .int .i64 0, .int .i64 0, .int .i64 0, .int .u64 0, .int .i64 0] 52)) (below_alloc (Below.refl _ _) _) (by omega) (.inr (Nat.le_refl _)) BQ
      with_reducible refine wp_store_eblk (r := w5.heap.size) (z := slt0) (.tmp 19) (.tmp 160) rfl BQ fV rfl rfl ?_
      refine hK.out _ _ f1 (fun hHeld => ?_)
      clear hK K
      try go_frame
      (refine' takeH 13 (v := _) rfl (by kernel_rfl) (by kernel_rfl) (by kernel_rfl) (fun _ _ _ h => h) (Or.inl ⟨by rfl, ?_⟩) (by assumption) ?_; rotate_left; · ((intro w hSw; (try dsimp only at hSw); go_simp) <;> with_reducible rfl)); try go_frame
      refine wpAnyH_done (by kernel_rfl) ?_ _
      go_wp2_with fail
      go_meet
      exact ⟨w5.heap.size, rfl, rfl, f2, f3, f4, f5⟩
    · go_simp
      refine hK.out _ _ (hSc.out _ _ hHeld (below_alloc (Below.refl _ _) _)) (fun hHeld => ?_)
      clear hK K
      try go_frame
      have hba2 := below_chain (below_alloc (Below.refl wq.heap.size wq) (.cells #[.int .i64 0, .bool false, .int .u64 0, .int .u64 0, .bool false, .int .u64 0, .int .u64 0, .int .i64 0, .int .i64 0, .int .i64 0, .int .i64 0, .int .i64 0, .int .u64 0, .int .i64 0] 52)) hd
      refine wpAnyH_ready (rs := [7]) (by kernel_rfl) (by simp) ?_; refine consH rfl (fun K hK => ?_) AllReadyH.nil
      go_simp
      (go_at_call 16; (with_reducible refine (K1.out _ hba2).mono ?_))
      rintro e w5 ⟨rfl, hT5, hc5⟩
      obtain ⟨s5, FN⟩ := FIN.out _ _ hba2 hT5 hc5
      refine hK.out _ _ s5 (fun hHeld => ?_)
      clear hK K
      try go_frame
      (refine' takeH 8 (v := _) rfl (by kernel_rfl) (by kernel_rfl) (by kernel_rfl) (fun _ _ _ h => h) (Or.inl ⟨by rfl, ?_⟩) (by assumption) ?_; rotate_left; · ((intro w hSw; (try dsimp only at hSw); go_simp) <;> with_reducible rfl)); try go_frame
      (refine' takeH 9 (v := _) rfl (by kernel_rfl) (by kernel_rfl) (by kernel_rfl) (fun _ _ _ h => h) (Or.inl ⟨by rfl, ?_⟩) (by assumption) ?_; rotate_left; · ((intro w hSw; (try dsimp only at hSw); go_simp) <;> with_reducible rfl)); try go_frame
      (refine' takeH 10 (v := _) rfl (by kernel_rfl) (by kernel_rfl) (by kernel_rfl) (fun _ _ _ h => h) (Or.inl ⟨by rfl, ?_⟩) (by assumption) ?_; rotate_left; · ((intro w hSw; (try dsimp only at hSw); go_simp) <;> with_reducible rfl)); try go_frame
      have hsa : (wq.alloc (.cells #[.int .i64 0, .bool false, .int .u64 0, .int .u64 0, .bool false, .int .u64 0, .int .u64 0, .int .i64 0, .int .i64 0, .int .i64 0, .int .i64 0, .int .i64 0, .int .u64 0, .int .i64 0] 52)).heap.size = wq.heap.size + 1 := World.size_alloc _ _
      refine wpAnyH_ready (rs := [12]) (by kernel_rfl) (by simp) ?_; refine consH rfl (fun K hK => ?_) AllReadyH.nil
      rw [if_pos (by rfl)]
      have BQ : Blk w5 wr.heap.size 52 slt0.entA := by
        rw [← hwd]
        exact (Blk.new wq 52 slt0.entA).chg hc5 fun e => e.2 (.inr ⟨by omega, by omega⟩)
      obtain ⟨f1, f2, f3, f4, f5⟩ := FN wr.heap.size w5 (Below.refl _ _) (by omega) (.inl (by omega)) BQ
      with_reducible refine wp_store_eblk (r := wr.heap.size) (z := slt0) (.tmp 19) (.tmp 160) rfl BQ fV rfl rfl ?_
      refine hK.out _ _ f1 (fun hHeld => ?_)
      clear hK K
      try go_frame
      (refine' takeH 13 (v := _) rfl (by kernel_rfl) (by kernel_rfl) (by kernel_rfl) (fun _ _ _ h => h) (Or.inl ⟨by rfl, ?_⟩) (by assumption) ?_; rotate_left; · ((intro w hSw; (try dsimp only at hSw); go_simp) <;> with_reducible rfl)); try go_frame
      refine wpAnyH_done (by kernel_rfl) ?_ _
      go_wp2_with fail
      go_meet
      exact ⟨wr.heap.size, rfl, rfl, f2, f3, f4, f5⟩
  case rest =>
   as_aux_lemma =>
    obtain ⟨q9, rfl, rfl, V, hT2, hc2, X2⟩ := hcut
    clear FIN CK K1 hSt X1 hbx hcw hb2 hK3 hKq p4
    replace hT2 := Lib.hid hT2
    replace hc2 := Lib.hid hc2
    have REL := Lib.hid fun (nq : Nat) => (show TabsN w (wc.drewN nq) g R p n S2 (fun b => K22 rb (some a9) (some a2) b ∨ wo.heap.size ≤ b ∧ b < w2.heap.size) ∧ Chg (Nk w fun b => K22 rb (some a9) (some a2) b ∨ wo.heap.size ≤ b ∧ b < w2.heap.size) w2 (wc.drewN nq) from ⟨hT2.out.call0 (below_drewN (Below.refl _ _) nq), hc2.out.drewN nq⟩)
    cases fo
    · obtain rfl : is_ = false := by
        cases is_
        · rfl
        · exact absurd (hA.out rfl) (by decide)
      clear V X2
      go_wp2_with fail
      go_quiet (fail)
      go_wp2_with fail
      go_roundg (go_ - 1)
      case measure => omega
      case rel => exact ⟨m + 1, S2, by omega, by go_num, (REL.out nq).1, hHI.out.mono (by omega) (by omega), hE2.out, (REL.out nq).2⟩
    · obtain ⟨b1, b2, b3, b4, b5, b6, b7⟩ := hB.out rfl
      have hNE : ∀ W, (binOp .neq 47 fV.t.val x.t.val).run Tryz.prog W = .ok (.bool false) W := fun W => by rw [tup_neq, b1, tupB_self]; rfl
      have hg1 : (fV.sl != x.sl) = false := by rw [b2]; simp
      have hx1 := hx0.out
      have hg2 : decide (fV.gen < x.gen) = false := by simp; omega
      have hR9 := (KP.out _ hc2.out).2.2.2
      have r2 : wc.cell? ⟨rb, 2, none⟩ = some (.int .i64 (gB : Int)) := by rw [← hgB]; exact hR9.cell 2
      have f0 : wc.cell? ⟨q9, 0, none⟩ = some (.int .i64 fV.t.p) := V.cell 0
      have f1 : wc.cell? ⟨q9, 1, none⟩ = some (.bool fV.t.v) := V.cell 1
      have f2 : wc.cell? ⟨q9, 2, none⟩ = some (.int .u64 fV.t.hi) := V.cell 2
      have f3 : wc.cell? ⟨q9, 3, none⟩ = some (.int .u64 fV.t.lo) := V.cell 3
      have f4 : wc.cell? ⟨q9, 4, none⟩ = some (.bool fV.t.v') := V.cell 4
      have f5 : wc.cell? ⟨q9, 5, none⟩ = some (.int .u64 fV.t.hi') := V.cell 5
      have f6 : wc.cell? ⟨q9, 6, none⟩ = some (.int .u64 fV.t.lo') := V.cell 6
      have f7 : wc.cell? ⟨q9, 7, none⟩ = some (.int .i64 fV.t.sp) := V.cell 7
      have f8 : wc.cell? ⟨q9, 8, none⟩ = some (.int .i64 fV.t.dp) := V.cell 8
      have f9 : wc.cell? ⟨q9, 9, none⟩ = some (.int .i64 fV.bk) := V.cell 9
      have f10 : wc.cell? ⟨q9, 10, none⟩ = some (.int .i64 fV.st) := V.cell 10
      have f11 : wc.cell? ⟨q9, 11, none⟩ = some (.int .i64 fV.sl) := V.cell 11
      have f12 : wc.cell? ⟨q9, 12, none⟩ = some (.int .u64 fV.gen) := V.cell 12
      have f13 : wc.cell? ⟨q9, 13, none⟩ = some (.int .i64 fV.due) := V.cell 13
      have h0 : wc.cell? ⟨q6, 0, none⟩ = some (.int .i64 x.t.p) := X2.cell 0
      have h1 : wc.cell? ⟨q6, 1, none⟩ = some (.bool x.t.v) := X2.cell 1
      have h2 : wc.cell? ⟨q6, 2, none⟩ = some (.int .u64 x.t.hi) := X2.cell 2
      have h3 : wc.cell? ⟨q6, 3, none⟩ = some (.int .u64 x.t.lo) := X2.cell 3
      have h4 : wc.cell? ⟨q6, 4, none⟩ = some (.bool x.t.v') := X2.cell 4
      have h5 : wc.cell? ⟨q6, 5, none⟩ = some (.int .u64 x.t.hi') := X2.cell 5
      have h6 : wc.cell? ⟨q6, 6, none⟩ = some (.int .u64 x.t.lo') := X2.cell 6
      have h7 : wc.cell? ⟨q6, 7, none⟩ = some (.int .i64 x.t.sp) := X2.cell 7
      have h8 : wc.cell? ⟨q6, 8, none⟩ = some (.int .i64 x.t.dp) := X2.cell 8
      have h9 : wc.cell? ⟨q6, 9, none⟩ = some (.int .i64 x.bk) := X2.cell 9
      have h10 : wc.cell? ⟨q6, 10, none⟩ = some (.int .i64 x.st) := X2.cell 10
      have h11 : wc.cell? ⟨q6, 11, none⟩ = some (.int .i64 x.sl) := X2.cell 11
      have h12 : wc.cell? ⟨q6, 12, none⟩ = some (.int .u64 x.gen) := X2.cell 12
      have h13 : wc.cell? ⟨q6, 13, none⟩ = some (.int .i64 x.due) := X2.cell 13
      obtain ⟨dd, hdd⟩ : ∃ dd, fV.gen - x.gen = dd := ⟨_, rfl⟩
      rw [hdd, hgB, Int.toNat_natCast] at b5
      have hsub : IntKind.u64.wrap (fV.gen - x.gen) = dd := by
        rw [hdd]
        simp [IntKind.wrap, IntKind.bits, IntKind.signed]
        omega
      have hp63 := pow63 gB hgB63
      have hpw0 : 0 < 2 ^ gB := Nat.pow_pos (by omega)
      obtain ⟨pw, hpw⟩ : ∃ pw : Nat, 2 ^ gB = pw := ⟨_, rfl⟩
      rw [hpw] at b5 hp63 hpw0
      have hshl : IntKind.u64.wrap (2 ^ gB) = (pw : Int) := by
        have e : ((2 : Int) ^ gB) = (pw : Int) := by rw [← hpw]; simp
        rw [e]
        simp [IntKind.wrap, IntKind.bits, IntKind.signed]
        omega
      have hrm : dd.tmod (pw : Int) = 0 := by rw [Int.tmod_eq_emod_of_nonneg (by omega)]; exact b5
      have hpz : ((pw : Int) == 0) = false := by rw [beq_eq_false_iff_ne]; omega
      have hpz2 : ¬ (pw = 0) := by omega
      clear hpw hdd b5 hp63 hpw0 V X2 hR9
      cases is_
      · clear b7 hA hB
        go_wp2_with fail
        go_quiet (fail)
        have f9' : (wc.drewN nq).cell? ⟨q9, 9, none⟩ = some (.int .i64 fV.bk) := f9
        have f12' : (wc.drewN nq).cell? ⟨q9, 12, none⟩ = some (.int .u64 fV.gen) := f12
        have h9' : (wc.drewN nq).cell? ⟨q6, 9, none⟩ = some (.int .i64 x.bk) := h9
        have h12' : (wc.drewN nq).cell? ⟨q6, 12, none⟩ = some (.int .u64 x.gen) := h12
        clear f0 f1 f2 f3 f4 f5 f6 f7 f8 f9 f10 f11 f12 f13 h0 h1 h2 h3 h4 h5 h6 h7 h8 h9 h10 h11 h12 h13 r2 hNE
        go_wp2_with fail
        go_roundg (go_ - 1)
        case measure => omega
        case rel => exact ⟨m + 1, S2, by omega, by go_num, (REL.out nq).1, hHI.out.mono (by omega) (by omega), hE2.out, (REL.out nq).2⟩
      · have hbk := b7 rfl
        have hbb : (fV.bk != x.bk) = false := by rw [hbk]; simp
        clear b7 hA hB
        go_wp2_with fail
        go_quiet (fail)
        have f9' : (wc.drewN nq).cell? ⟨q9, 9, none⟩ = some (.int .i64 fV.bk) := f9
        have f12' : (wc.drewN nq).cell? ⟨q9, 12, none⟩ = some (.int .u64 fV.gen) := f12
        have h9' : (wc.drewN nq).cell? ⟨q6, 9, none⟩ = some (.int .i64 x.bk) := h9
        have h12' : (wc.drewN nq).cell? ⟨q6, 12, none⟩ = some (.int .u64 x.gen) := h12
        clear f0 f1 f2 f3 f4 f5 f6 f7 f8 f9 f10 f11 f12 f13 h0 h1 h2 h3 h4 h5 h6 h7 h8 h9 h10 h11 h12 h13 r2 hNE
        go_wp2_with fail
        go_roundg (go_ - 1)
        case measure => omega
        case rel => exact ⟨m + 1, S2, by omega, by go_num, (REL.out nq).1, hHI.out.mono (by omega) (by omega), hE2.out, (REL.out nq).2⟩
end Go.Proofs.YtbmmklgkbbbopaaGreat

namespace Go.Proofs.YtbmmklgkbbbopaaGreat
open Go Go.RowKit Go.Deep Go.Maps Go.ChangeMaps

set_option maxRecDepth 100000 in
set_option maxHeartbeats 64000000 in
theorem tablesRecycle_yes_arm3_s3 : tablesRecycle_end.2.2.1 := by
  intro l B d w h30 e30 e31 sb gb hsb12 p n hn8 wd gn ka kb a b c d2 G hp hsm zz0 w0 rb hrb hrw w1 w3 w4 w5 g R hy hp1 hnR hnpR hR zz1 yy0 u10 u11 u12 u13 u43 u44 u45 u46 u47 u48 u49 u50 u51 u52 u53 u54 u55 u56 u57 u58 u59 u60 u61 u62 u63 u64 u65 u66 u67 u68 u69 u70 u71 u72 u73 u74 u75 u76 u77 u78 u79 u80 u81 u82 u83 u84 u85 u86 u87 u88 u89 u90 u91 u92 u93 u94 u95 u96 u97 u98 u99 u100 u101 zz3 zz4 zz5 zz6 k S A A2 q q2 cs O hk hnA hnA2 hcl hlt hOl hcs hpx hdA yy1 yy2 w2 A1 q1 hlti yy3 yy4 LL hLL wo hb2 hIn hK3 KP gk wr u4 u16 u17 u18 u19 u20 u104 u105 u106 u107 u108 u109 u110 u111 u112 u113 u114 u115 u116 u117 u118 u119 u120 u121 u122 u123 u124 u125 u126 u127 u128 u129 u130 u131 u132 u133 u134 u135 u136 u137 u138 u139 u140 u141 u142 u143 u144 u145 u146 u147 u148 u149 u150 u151 u152 u153 u154 u155 u156 u157 u158 u159 u160 u161 u162 u163 u164 u165 u166 u167 u168 u169 u170 u171 u172 u173 u174 u175 u176 u177 u178 u179 u180 u181 u182 u183 u184 u185 u186 u187 u188 u189 u190 u191 u192 u193 u194 u195 u196 u197 u198 u199 u200 u201 u202 u203 u204 u205 u206 u207 u208 u209 u210 u211 u212 u213 u214 u215 u216 u217 u218 u219 u220 u221 u222 u223 yy5 yy6 yy7 yy8 S' hT hE hc p1 p2 p3 p4 hm hH hml hmli
  have hbw := hT.below
  go_wp2_with (go_at_call 8; (with_reducible refine (awake20 _).mono ?_); rintro e w9 ⟨rfl, hb9⟩)
  go_ret
  exact ⟨rfl, below_chain hb9 hbw⟩
end Go.Proofs.YtbmmklgkbbbopaaGreat

namespace Go.Proofs.YtbmmklgkbbbopaaGreat
open Go Go.RowKit Go.Deep Go.Maps Go.ChangeMaps

theorem tablesRecycle_calls (r : TRule) (l : List T20) (B : Option Addr) (d : Nat) (w : World) (hr : Reads w w.heap.size 14 B l.length (l.flatMap T20.cells)) (hwf : ∀ s ∈ l, t20Wf s) :
    Calls Tryz.prog 5 #[r.val, .slice B l.length d] w fun e w' => e = .returned (.bool true) ∧ Below w.heap.size w w' := by
  by_cases h : ruleOk r = false ∨ small20 r = false ∨ 30 < l.length
  · exact tablesRecycle_no r l B d w h
  · have h1 : ruleOk r = true := by
      cases e : ruleOk r
      · exact absurd (.inl e) h
      · rfl
    have h2 : small20 r = true := by
      cases e : small20 r
      · exact absurd (.inr (.inl e)) h
      · rfl
    exact tablesRecycle_pack.2.2.2 (Lib.hid tablesRecycle_yes_arm1) (Lib.hid tablesRecycle_yes_arm2) (Lib.hid (tablesRecycle_end.2.2.2 (Lib.hid tablesRecycle_yes_arm3_s1) (Lib.hid tablesRecycle_yes_arm3_s2) (Lib.hid tablesRecycle_yes_arm3_s3))) r l B d w hr hwf h1 h2 (by
      by_cases e : 30 < l.length
      · exact absurd (.inr (.inr e)) h
      · omega)
end Go.Proofs.YtbmmklgkbbbopaaGreat
