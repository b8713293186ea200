/- tables: the law TablesPlay, called: a step that finds. tables: the law TablesPlay, called: a step that touches. tables: the law TablesPlay, called: a step that lets the time go on. tables: the law TablesPlay, called: a step that drops a backend. tables: the law TablesPlay, called: a step that opens. -/
import Derived.Test.YteklkljndchjiaaGreatJ47
namespace Go.Proofs.YteklkljndchjiaaGreat
open Go Go.RowKit Go.Deep Go.Maps Go.ChangeMaps
set_option maxRecDepth 100000 in
set_option maxHeartbeats 64000000 in
theorem tablesPlay_yes_arm1_s1_s2 : tablesPlay_kinds.2.1 := by
 intro _ _ w _ _ _ _ _ _ p n _ _ _ _ _ _ _ b _ _ G _ _ _ _ _ _ _ _ _ _ _ _ _ _ R hy _ _ _ _ _ _ _ _ _ _ _ _ _ _ _ _ u64 _ _ _ _ _ _ _ _ _ _ _ _ _ _ _ _ _ _ _ _ _ _ _ _ _ _ _ _ _ _ _ _ _ _ _ _ _ _ _ _ _ _ _ _ _ _ _ _ _ _ _ _ _ _ _ _ _ _ _ _ _ _ _ _ _ _ _ _ _ _ _ _ _ _ _ _ _ _ _ _ _ _ _ _ _ _ _ _ _ _ _ _ _ _ _ _ _ _ _ _ _ _ _ _ _ _ _ _ _ _ _ _ _ _ _ _ _ _ _ _ _ _ _ _ _ _ _ _ _ _ _ _ _ _ _ _ _ _ _ _ _ _ _ _ _ _ _ _ _ _ _ _ _ _ _ _ _ _ _ _ _ _ _ _ _ _ _ _ _ _ _ _ _ _ _ _ _ _ _ _ _ _ _ _ _ _ _ _ _ _ _ _ _ _ _ _ _ _ _ _ _ _ _ _ _ _ _ _ _ _ _ _ _ _ _ _ _ _ _ _ _ _ _ _ _ _ _ _ _ _ _ _ _ _ _ _ _ _ _ _ _ _ _ _ _ _ _ _ _ _ _ _ _ _ _ _ _ _ _ _ _ _ _ _ _ _ _ _ _ _ _ _ _ _ _ _ _ _ _ _ _ _ _ _ _ _ _ _ _ _ _ _ _ _ _ _ _ _ _ _ _ _ _ _ _ _ _ _ _ _ _ _ _ _ _ _ _ _ _ _ _ _ _ _ _ _ _ _ _ _ _ _ _ _ _ _ _ _ _ _ _ _ _ _ _ _ _ _ _ _ _ _ _ _ _ _ _ _ _ _ _ _ _ _ _ _ _ _ _ _ _ _ _ _ _ _ _ _ _ _ _ _ _ _ _ _ _ _ _ _ _ _ _ _ _ _ _ _ _ _ _ _ _ _ _ _ _ _ _ _ _ _ _ _ _ _ _ _ _ _ _ _ _ _ _ _ _ _ _ _ _ _ _ _ _ _ _ _ _ _ _ _ _ _ _ _ _ _ _ _ _ _ S A _ _ _ _ _ st _ hL hW hwfs _ _ _ rs _ _ _ _ ck hck w7 _ _ hT7 _ _ s1 s2 s3 s4 s5 s6 s7 s8 s9 s10 s11 s12 s13 hpx _ REL Sb7 hKl _ _ _ _ _ _ _ _ _ s0 _
 have hti := hL.out.ti _ hpx
 have hLI := hL.out.find (t := st.tu) (by omega) hpx (ck : Int)
 have hWf := hW.out.upd (i := pIx R st.tu) (keepE_find (r := R) (t := st.tu) (ck : Int))
 have K1 := twos_find hT7.out hKl.out st.tu ck hck
 obtain ⟨fV, hfV⟩ : ∃ v, findVC R n (S (pIx R st.tu)) st.tu ck = v := ⟨_, rfl⟩
 rw [hfV] at K1
 replace hfV := Lib.hid hfV
 obtain ⟨fo, hfo⟩ : ∃ v, findOkC R n (S (pIx R st.tu)) st.tu ck = v := ⟨_, rfl⟩
 rw [hfo] at K1
 replace hfo := Lib.hid hfo
 obtain ⟨S', hS'⟩ : ∃ v, updS S (pIx R st.tu) (findSC R n (S (pIx R st.tu)) st.tu ck) = v := ⟨_, rfl⟩
 rw [hS'] at K1 hLI hWf
 replace hS' := Lib.hid hS'
 replace K1 := Lib.hid K1
 replace hLI := Lib.hid hLI
 replace hWf := Lib.hid hWf
 clear hti
 go_upto_region 23 with (go_at_call 17; (with_reducible refine K1.out.mono ?_); rintro e w2 ⟨rfl, h2, k2⟩)
 change Code.wp _ _ _ _ (w2.alloc (.cells fV.entA 52))
 have BA := Blk.new w2 52 fV.entA
 have hbA := below_alloc (Below.refl w2.heap.size w2) (.cells fV.entA 52)
 have h3 := h2.call hbA
 have P3 := (Sb7.out.chg k2 (fun e => e.2 (.inr rfl))).call hbA
 have hzA : (w2.alloc (.cells fV.entA 52)).heap.size = w2.heap.size + 1 := World.size_alloc _ _
 have hz2 := k2.size
 have kA : Chg (Nk w (K2s A rs)) w7 (w2.alloc (.cells fV.entA 52)) := k2.trans (G := fun _ => False) (Chg.of_below hbA) (fun b _ h => h.elim)
 generalize w2.alloc (.cells fV.entA 52) = w3' at *
 obtain ⟨ra, hra⟩ : ∃ r, w2.heap.size = r := ⟨_, rfl⟩
 have hraK : w2.heap.size ≤ ra ∧ ra < w3'.heap.size := by omega
 have hsz : w7.heap.size ≤ w2.heap.size ∧ w2.heap.size < w3'.heap.size := by omega
 rw [hra] at BA
 try rw [hra]
 clear s0 s1 s2 s3 s4 s5 s6 s7 s8 s9 s10 s11 s12 s13 K1 k2 h2
 have s1 : w3'.cell? ⟨rs, 1, none⟩ = some (.int .i64 st.tu.p) := P3.cell 1
 have s2 : w3'.cell? ⟨rs, 2, none⟩ = some (.bool st.tu.v) := P3.cell 2
 have s3 : w3'.cell? ⟨rs, 3, none⟩ = some (.int .u64 st.tu.hi) := P3.cell 3
 have s4 : w3'.cell? ⟨rs, 4, none⟩ = some (.int .u64 st.tu.lo) := P3.cell 4
 have s5 : w3'.cell? ⟨rs, 5, none⟩ = some (.bool st.tu.v') := P3.cell 5
 have s6 : w3'.cell? ⟨rs, 6, none⟩ = some (.int .u64 st.tu.hi') := P3.cell 6
 have s7 : w3'.cell? ⟨rs, 7, none⟩ = some (.int .u64 st.tu.lo') := P3.cell 7
 have s8 : w3'.cell? ⟨rs, 8, none⟩ = some (.int .i64 st.tu.sp) := P3.cell 8
 have s9 : w3'.cell? ⟨rs, 9, none⟩ = some (.int .i64 st.tu.dp) := P3.cell 9
 have s10 : w3'.cell? ⟨rs, 10, none⟩ = some (.int .i64 st.n) := P3.cell 10
 have s11 : w3'.cell? ⟨rs, 11, none⟩ = some (.int .i64 st.bk) := P3.cell 11
 have s12 : w3'.cell? ⟨rs, 12, none⟩ = some (.int .u64 st.ck) := P3.cell 12
 have s13 : w3'.cell? ⟨rs, 13, none⟩ = some (.int .i64 st.pk) := P3.cell 13
 have OD := Lib.hid (twos_dfind h3 (fun y hy => by
  rcases hy with (h | h) | h
  ·
   have := hKl.out y h
   omega
  · omega
  · omega) st.tu hwfs.out.2 ck hck)
 rw [hfV.out, hfo.out, hS'.out] at OD
 replace BA := Lib.hid BA
 replace kA := Lib.hid kA
 clear h3 P3
 go_upto_region 24 with (go_at_call 18; (with_reducible refine OD.out.mono ?_); rintro e w4' ⟨rfl, h4, k4⟩)
 change Code.wp _ _ _ _ (w4'.alloc (.cells fV.entA 52))
 have BB := Blk.new w4' 52 fV.entA
 have hbB := below_alloc (Below.refl w4'.heap.size w4') (.cells fV.entA 52)
 have BA5 := (BA.out.chg k4 (fun e => e.2 (.inr hraK))).call hbB
 have h5 := (h4.call hbB).mono (K1' := K2s A rs) (K2' := K2s A rs) (fun y hy => .inl (.inl (.inl hy))) (fun y hy => .inl (.inl (.inl hy)))
 have kB : Chg (Nk w (K2s A rs)) w7 (w4'.alloc (.cells fV.entA 52)) := (kA.out.trans (k4.mono (G := Nk w (K2s A rs)) (fun y _ e => ⟨e.1, fun h => e.2 (.inl (.inl h))⟩)) (fun _ _ h => h)).trans (G := fun _ => False) (Chg.of_below hbB) (fun b _ h => h.elim)
 generalize w4'.alloc (.cells fV.entA 52) = w5' at *
 obtain ⟨rc, hrc⟩ : ∃ r, w4'.heap.size = r := ⟨_, rfl⟩
 rw [hrc] at BB
 try rw [hrc]
 have hEN : ∀ W, (binOp .neq 52 fV.val fV.val).run Tryz.prog W = .ok (.bool false) W := fun W => by rw [ent_neq, entB_self]; rfl
 have hoo : (fo != fo) = false := by simp
 replace h5 := Lib.hid h5
 replace kB := Lib.hid kB
 clear h4 k4 hbB OD s1 s2 s3 s4 s5 s6 s7 s8 s9 s10 s11 s12 s13
 go_wp2_with (first
  | (refine wpList_load_entR rfl (.tmp 18) rfl ⟨ra, 0, none⟩ rfl fV (blk_at BA5) ?_)
  | (refine wpList_load_entR rfl (.tmp 20) rfl ⟨rc, 0, none⟩ rfl fV (blk_at BB) ?_))
 go_meet
 exact REL.out _ _ h5.out kB.out (hLI.out.mono (by omega)) hWf.out
set_option maxRecDepth 100000 in
set_option maxHeartbeats 64000000 in
theorem tablesPlay_yes_arm1_s1_s3 : tablesPlay_kinds.2.2.1 := by
 intro _ _ w _ _ _ _ _ _ p n _ _ _ _ _ _ _ b _ _ G _ _ _ _ _ _ _ _ _ _ _ _ _ _ R hy _ _ _ _ _ _ _ _ _ _ _ _ _ _ _ _ u64 _ _ _ _ _ _ _ _ _ _ _ _ _ _ _ _ _ _ _ _ _ _ _ _ _ _ _ _ _ _ _ _ _ _ _ _ _ _ _ _ _ _ _ _ _ _ _ _ _ _ _ _ _ _ _ _ _ _ _ _ _ _ _ _ _ _ _ _ _ _ _ _ _ _ _ _ _ _ _ _ _ _ _ _ _ _ _ _ _ _ _ _ _ _ _ _ _ _ _ _ _ _ _ _ _ _ _ _ _ _ _ _ _ _ _ _ _ _ _ _ _ _ _ _ _ _ _ _ _ _ _ _ _ _ _ _ _ _ _ _ _ _ _ _ _ _ _ _ _ _ _ _ _ _ _ _ _ _ _ _ _ _ _ _ _ _ _ _ _ _ _ _ _ _ _ _ _ _ _ _ _ _ _ _ _ _ _ _ _ _ _ _ _ _ _ _ _ _ _ _ _ _ _ _ _ _ _ _ _ _ _ _ _ _ _ _ _ _ _ _ _ _ _ _ _ _ _ _ _ _ _ _ _ _ _ _ _ _ _ _ _ _ _ _ _ _ _ _ _ _ _ _ _ _ _ _ _ _ _ _ _ _ _ _ _ _ _ _ _ _ _ _ _ _ _ _ _ _ _ _ _ _ _ _ _ _ _ _ _ _ _ _ _ _ _ _ _ _ _ _ _ _ _ _ _ _ _ _ _ _ _ _ _ _ _ _ _ _ _ _ _ _ _ _ _ _ _ _ _ _ _ _ _ _ _ _ _ _ _ _ _ _ _ _ _ _ _ _ _ _ _ _ _ _ _ _ _ _ _ _ _ _ _ _ _ _ _ _ _ _ _ _ _ _ _ _ _ _ _ _ _ _ _ _ _ _ _ _ _ _ _ _ _ _ _ _ _ _ _ _ _ _ _ _ _ _ _ _ _ _ _ _ _ _ _ _ _ _ _ _ _ _ _ _ _ _ _ _ _ _ _ _ _ _ _ _ _ _ _ _ _ _ _ _ _ _ _ _ _ _ _ _ S A _ _ _ _ _ st _ hL hW hwfs _ _ _ rs _ _ _ _ ck hck w7 _ _ hT7 _ _ s1 s2 s3 s4 s5 s6 s7 s8 s9 s10 s11 s12 s13 hpx _ REL Sb7 hKl _ _ _ _ _ _ _ _ _ s0 _
 have hti := hL.out.ti _ hpx
 have hLI := hL.out.touch (t := st.tu) (by omega) hpx (ck : Int) st.n
 have hWf := hW.out.upd (i := pIx R st.tu) (keepE_touchSC (r := R) (t := st.tu) (ck : Int) st.n)
 have K1 := twos_touch hT7.out hKl.out st.tu ck hck st.n
 obtain ⟨fV, hfV⟩ : ∃ v, touchVC R n (S (pIx R st.tu)) st.tu ck st.n = v := ⟨_, rfl⟩
 rw [hfV] at K1
 replace hfV := Lib.hid hfV
 obtain ⟨fo, hfo⟩ : ∃ v, touchOkC R n (S (pIx R st.tu)) st.tu ck = v := ⟨_, rfl⟩
 rw [hfo] at K1
 replace hfo := Lib.hid hfo
 obtain ⟨S', hS'⟩ : ∃ v, updS S (pIx R st.tu) (touchSC R n (S (pIx R st.tu)) st.tu ck st.n) = v := ⟨_, rfl⟩
 rw [hS'] at K1 hLI hWf
 replace hS' := Lib.hid hS'
 replace K1 := Lib.hid K1
 replace hLI := Lib.hid hLI
 replace hWf := Lib.hid hWf
 clear hti
 go_upto_region 28 with (go_at_call 19; (with_reducible refine K1.out.mono ?_); rintro e w2 ⟨rfl, h2, k2⟩)
 change Code.wp _ _ _ _ (w2.alloc (.cells fV.entA 52))
 have BA := Blk.new w2 52 fV.entA
 have hbA := below_alloc (Below.refl w2.heap.size w2) (.cells fV.entA 52)
 have h3 := h2.call hbA
 have P3 := (Sb7.out.chg k2 (fun e => e.2 (.inr rfl))).call hbA
 have hzA : (w2.alloc (.cells fV.entA 52)).heap.size = w2.heap.size + 1 := World.size_alloc _ _
 have hz2 := k2.size
 have kA : Chg (Nk w (K2s A rs)) w7 (w2.alloc (.cells fV.entA 52)) := k2.trans (G := fun _ => False) (Chg.of_below hbA) (fun b _ h => h.elim)
 generalize w2.alloc (.cells fV.entA 52) = w3' at *
 obtain ⟨ra, hra⟩ : ∃ r, w2.heap.size = r := ⟨_, rfl⟩
 have hraK : w2.heap.size ≤ ra ∧ ra < w3'.heap.size := by omega
 have hsz : w7.heap.size ≤ w2.heap.size ∧ w2.heap.size < w3'.heap.size := by omega
 rw [hra] at BA
 try rw [hra]
 clear s0 s1 s2 s3 s4 s5 s6 s7 s8 s9 s10 s11 s12 s13 K1 k2 h2
 have s1 : w3'.cell? ⟨rs, 1, none⟩ = some (.int .i64 st.tu.p) := P3.cell 1
 have s2 : w3'.cell? ⟨rs, 2, none⟩ = some (.bool st.tu.v) := P3.cell 2
 have s3 : w3'.cell? ⟨rs, 3, none⟩ = some (.int .u64 st.tu.hi) := P3.cell 3
 have s4 : w3'.cell? ⟨rs, 4, none⟩ = some (.int .u64 st.tu.lo) := P3.cell 4
 have s5 : w3'.cell? ⟨rs, 5, none⟩ = some (.bool st.tu.v') := P3.cell 5
 have s6 : w3'.cell? ⟨rs, 6, none⟩ = some (.int .u64 st.tu.hi') := P3.cell 6
 have s7 : w3'.cell? ⟨rs, 7, none⟩ = some (.int .u64 st.tu.lo') := P3.cell 7
 have s8 : w3'.cell? ⟨rs, 8, none⟩ = some (.int .i64 st.tu.sp) := P3.cell 8
 have s9 : w3'.cell? ⟨rs, 9, none⟩ = some (.int .i64 st.tu.dp) := P3.cell 9
 have s10 : w3'.cell? ⟨rs, 10, none⟩ = some (.int .i64 st.n) := P3.cell 10
 have s11 : w3'.cell? ⟨rs, 11, none⟩ = some (.int .i64 st.bk) := P3.cell 11
 have s12 : w3'.cell? ⟨rs, 12, none⟩ = some (.int .u64 st.ck) := P3.cell 12
 have s13 : w3'.cell? ⟨rs, 13, none⟩ = some (.int .i64 st.pk) := P3.cell 13
 have OD := Lib.hid (twos_dtouch h3 (fun y hy => by
  rcases hy with (h | h) | h
  ·
   have := hKl.out y h
   omega
  · omega
  · omega) st.tu hwfs.out.2 ck hck st.n)
 rw [hfV.out, hfo.out, hS'.out] at OD
 replace BA := Lib.hid BA
 replace kA := Lib.hid kA
 clear h3 P3
 go_upto_region 29 with (go_at_call 20; (with_reducible refine OD.out.mono ?_); rintro e w4' ⟨rfl, h4, k4⟩)
 change Code.wp _ _ _ _ (w4'.alloc (.cells fV.entA 52))
 have BB := Blk.new w4' 52 fV.entA
 have hbB := below_alloc (Below.refl w4'.heap.size w4') (.cells fV.entA 52)
 have BA5 := (BA.out.chg k4 (fun e => e.2 (.inr hraK))).call hbB
 have h5 := (h4.call hbB).mono (K1' := K2s A rs) (K2' := K2s A rs) (fun y hy => .inl (.inl (.inl hy))) (fun y hy => .inl (.inl (.inl hy)))
 have kB : Chg (Nk w (K2s A rs)) w7 (w4'.alloc (.cells fV.entA 52)) := (kA.out.trans (k4.mono (G := Nk w (K2s A rs)) (fun y _ e => ⟨e.1, fun h => e.2 (.inl (.inl h))⟩)) (fun _ _ h => h)).trans (G := fun _ => False) (Chg.of_below hbB) (fun b _ h => h.elim)
 generalize w4'.alloc (.cells fV.entA 52) = w5' at *
 obtain ⟨rc, hrc⟩ : ∃ r, w4'.heap.size = r := ⟨_, rfl⟩
 rw [hrc] at BB
 try rw [hrc]
 have hEN : ∀ W, (binOp .neq 52 fV.val fV.val).run Tryz.prog W = .ok (.bool false) W := fun W => by rw [ent_neq, entB_self]; rfl
 have hoo : (fo != fo) = false := by simp
 replace h5 := Lib.hid h5
 replace kB := Lib.hid kB
 clear h4 k4 hbB OD s1 s2 s3 s4 s5 s6 s7 s8 s9 s10 s11 s12 s13
 go_wp2_with (first
  | (refine wpList_load_entR rfl (.tmp 22) rfl ⟨ra, 0, none⟩ rfl fV (blk_at BA5) ?_)
  | (refine wpList_load_entR rfl (.tmp 24) rfl ⟨rc, 0, none⟩ rfl fV (blk_at BB) ?_))
 go_meet
 exact REL.out _ _ h5.out kB.out (hLI.out.mono (by omega)) hWf.out
set_option maxRecDepth 100000 in
set_option maxHeartbeats 64000000 in
theorem tablesPlay_yes_arm1_s1_s4 : tablesPlay_kinds.2.2.2.1 := by
 intro _ _ w _ _ _ _ _ _ p n _ hn8 _ _ _ _ _ b _ _ G _ _ _ _ _ _ _ _ _ _ _ _ _ _ _ hy hp1 _ _ _ _ _ _ _ _ _ _ _ _ _ _ _ u64 _ _ _ _ _ _ _ _ _ _ _ _ _ _ _ _ _ _ _ _ _ _ _ _ _ _ _ _ _ _ _ _ _ _ _ _ _ _ _ _ _ _ _ _ _ _ _ _ _ _ _ _ _ _ _ _ _ _ _ _ _ _ _ _ _ _ _ _ _ _ _ _ _ _ _ _ _ _ _ _ _ _ _ _ _ _ _ _ _ _ _ _ _ _ _ _ _ _ _ _ _ _ _ _ _ _ _ _ _ _ _ _ _ _ _ _ _ _ _ _ _ _ _ _ _ _ _ _ _ _ _ _ _ _ _ _ _ _ _ _ _ _ _ _ _ _ _ _ _ _ _ _ _ _ _ _ _ _ _ _ _ _ _ _ _ _ _ _ _ _ _ _ _ _ _ _ _ _ _ _ _ _ _ _ _ _ _ _ _ _ _ _ _ _ _ _ _ _ _ _ _ _ _ _ _ _ _ _ _ _ _ _ _ _ _ _ _ _ _ _ _ _ _ _ _ _ _ _ _ _ _ _ _ _ _ _ _ _ _ _ _ _ _ _ _ _ _ _ _ _ _ _ _ _ _ _ _ _ _ _ _ _ _ _ _ _ _ _ _ _ _ _ _ _ _ _ _ _ _ _ _ _ _ _ _ _ _ _ _ _ _ _ _ _ _ _ _ _ _ _ _ _ _ _ _ _ _ _ _ _ _ _ _ _ _ _ _ _ _ _ _ _ _ _ _ _ _ _ _ _ _ _ _ _ _ _ _ _ _ _ _ _ _ _ _ _ _ _ _ _ _ _ _ _ _ _ _ _ _ _ _ _ _ _ _ _ _ _ _ _ _ _ _ _ _ _ _ _ _ _ _ _ _ _ _ _ _ _ _ _ _ _ _ _ _ _ _ _ _ _ _ _ _ _ _ _ _ _ _ _ _ _ _ _ _ _ _ _ _ _ _ _ _ _ _ _ _ _ _ _ _ _ _ _ _ _ _ _ _ _ _ _ _ _ _ _ _ _ _ _ _ _ S A _ _ hcl _ _ st _ hL hW _ _ _ _ rs _ _ _ _ ck _ _ _ _ hT7 _ _ s1 s2 s3 s4 s5 s6 s7 s8 s9 s10 s11 s12 s13 _ _ REL Sb7 hKl _ _ _ _ _ _ _ _ _ s0 _
 have hpl := hp1.2.2
 have hti := hL.out.ti
 have K1 := twos_go hT7.out hKl.out st.n hL.out.now
 have hlm : p * n ≤ 16 * 8 := Nat.mul_le_mul hp1.2.2 hn8
 obtain ⟨ge, hge⟩ : ∃ v, goE (S 0).now st.n = v := ⟨_, rfl⟩
 rw [hge] at K1
 replace K1 := Lib.hid K1
 replace hge := Lib.hid hge
 replace hti := Lib.hid hti
 go_upto_region 33 with (go_at_call 21; (with_reducible refine K1.out.mono ?_); rintro e w2 ⟨A1, q1, SS, rfl, hS, hO, h2, k2⟩)
 have P2 := Sb7.out.chg k2 (fun e => e.2 (.inr rfl))
 have hLI := Lib.hid (hL.out.go hS)
 have hWf := Lib.hid (hW.out.all fun i hi => keepE_go (hti.out i hi) (hS i hi))
 have hz2 := k2.size
 have hcl : ∀ m, m ≤ p → (catF (fun i => goEnts (S i) (SS i)) m).length ≤ m * n := fun m => by
  induction m with
  | zero => intro _; simp [catF]
  | succ m ih =>
   intro hm
   have h1 := ih (by omega)
   have h2 := goS_len (hti.out m (by omega)) (hS m (by omega))
   rw [catF, List.length_append, Nat.succ_mul]
   have h3 : (goEnts (S m) (SS m)).length = (SS m).length := by unfold goEnts; rw [List.length_map]
   omega
 have hcl2 := hcl p (Nat.le_refl _)
 have OD := twos_dgo h2 (fun y hy => by
  rcases hy with h | h
  ·
   have := hKl.out y h
   omega
  · omega) st.n hL.out.now hS
 rw [hge.out] at OD
 obtain ⟨LG, hLG⟩ : ∃ v, catF (fun i => goEnts (S i) (SS i)) p = v := ⟨_, rfl⟩
 rw [hLG] at OD hO hcl2
 try rw [hLG]
 obtain ⟨S', hS'⟩ : ∃ v, (fun i => goTab n (S i) st.n (SS i)) = v := ⟨_, rfl⟩
 rw [hS'] at OD hLI hWf
 replace OD := Lib.hid OD
 have kA := Lib.hid k2
 replace hO := Lib.hid hO
 clear h2 k2 hS hLG hS' K1 hcl s0 s1 s2 s3 s4 s5 s6 s7 s8 s9 s10 s11 s12 s13
 have s1 : w2.cell? ⟨rs, 1, none⟩ = some (.int .i64 st.tu.p) := P2.cell 1
 have s2 : w2.cell? ⟨rs, 2, none⟩ = some (.bool st.tu.v) := P2.cell 2
 have s3 : w2.cell? ⟨rs, 3, none⟩ = some (.int .u64 st.tu.hi) := P2.cell 3
 have s4 : w2.cell? ⟨rs, 4, none⟩ = some (.int .u64 st.tu.lo) := P2.cell 4
 have s5 : w2.cell? ⟨rs, 5, none⟩ = some (.bool st.tu.v') := P2.cell 5
 have s6 : w2.cell? ⟨rs, 6, none⟩ = some (.int .u64 st.tu.hi') := P2.cell 6
 have s7 : w2.cell? ⟨rs, 7, none⟩ = some (.int .u64 st.tu.lo') := P2.cell 7
 have s8 : w2.cell? ⟨rs, 8, none⟩ = some (.int .i64 st.tu.sp) := P2.cell 8
 have s9 : w2.cell? ⟨rs, 9, none⟩ = some (.int .i64 st.tu.dp) := P2.cell 9
 have s10 : w2.cell? ⟨rs, 10, none⟩ = some (.int .i64 st.n) := P2.cell 10
 have s11 : w2.cell? ⟨rs, 11, none⟩ = some (.int .i64 st.bk) := P2.cell 11
 have s12 : w2.cell? ⟨rs, 12, none⟩ = some (.int .u64 st.ck) := P2.cell 12
 have s13 : w2.cell? ⟨rs, 13, none⟩ = some (.int .i64 st.pk) := P2.cell 13
 clear P2
 go_upto_region 34 with (go_at_call 22; (with_reducible refine OD.out.mono ?_); rintro e w3' ⟨A2, q2, rfl, hO2, h3, k3⟩)
 have hO3 := OwnA.chg hO.out k3 (fun y hi e => e.2 (.inr (hO.out.block hi)))
 have SA := same19 w3' A1 A2 q1 q2 LG hO3.reads hO2.reads (by omega)
 replace SA := Lib.hid SA
 have kB := kA.out.trans (k3.mono (G := Nk w (K2s A rs)) (fun y _ e => ⟨e.1, fun h => e.2 (.inl h)⟩)) (fun _ _ h => h)
 have HF := Lib.hid fun W (hb : Below w3'.heap.size w3' W) => REL.out W S' ((h3.call0 hb).mono (K1' := K2s A rs) (K2' := K2s A rs) (fun y hy => .inl hy) (fun y hy => .inl hy)) (kB.trans (G := fun _ => False) (Chg.of_below hb) (fun b _ h => h.elim)) (hLI.out.mono (by omega)) hWf.out
 have hgg : (ge != ge) = false := by simp
 clear h3 k3 kB hO3 hO2 OD s1 s2 s3 s4 s5 s6 s7 s8 s9 s10 s11 s12 s13
 go_wp2_with (go_at_call 23; (with_reducible refine SA.out.mono ?_); rintro e w4' ⟨rfl, hb4⟩)
 go_meet
 exact HF.out _ hb4
set_option maxRecDepth 100000 in
set_option maxHeartbeats 64000000 in
theorem tablesPlay_yes_arm1_s1_s5 : tablesPlay_kinds.2.2.2.2.1 := by
 intro _ _ w _ _ _ _ _ _ p n _ hn8 _ _ _ _ _ b _ _ G _ _ _ _ _ _ _ _ _ _ _ _ _ _ _ hy hp1 _ _ _ _ _ _ _ _ _ _ _ _ _ _ _ _ _ _ _ _ _ _ _ _ _ _ _ _ _ _ _ _ _ _ _ _ _ _ _ _ _ _ _ _ _ _ _ _ _ _ _ _ _ _ _ _ _ _ _ _ _ _ _ _ _ _ _ _ _ _ _ _ _ _ _ _ _ _ _ _ _ _ _ _ _ _ _ _ _ _ _ _ _ _ _ _ _ _ _ _ _ _ _ _ _ _ _ _ _ _ _ _ _ _ _ _ _ _ _ _ _ _ _ _ _ _ _ _ _ _ _ _ _ _ _ _ _ _ _ _ _ _ _ _ _ _ _ _ _ _ _ _ _ _ _ _ _ _ _ _ _ _ _ _ _ _ _ _ _ _ _ _ _ _ _ _ _ _ _ _ _ _ _ _ _ _ _ _ _ _ _ _ _ _ _ _ _ _ _ _ _ _ _ _ _ _ _ _ _ _ _ _ _ _ _ _ _ _ _ _ _ _ _ _ _ _ _ _ _ _ _ _ _ _ _ _ _ _ _ _ _ _ _ _ _ _ _ _ _ _ _ _ _ _ _ _ _ _ _ _ _ _ _ _ _ _ _ _ _ _ _ _ _ _ _ _ _ _ _ _ _ _ _ _ _ _ _ _ _ _ _ _ _ _ _ _ _ _ _ _ _ _ _ _ _ _ _ _ _ _ _ _ _ _ _ _ _ _ _ _ _ _ _ _ _ _ _ _ _ _ _ _ _ _ _ _ _ _ _ _ _ _ _ _ _ _ _ _ _ _ _ _ _ _ _ _ _ _ _ _ _ _ _ _ _ _ _ _ _ _ _ _ _ _ _ _ _ _ _ _ _ _ _ _ _ _ _ _ _ _ _ _ _ _ _ _ _ _ _ _ _ _ _ _ _ _ _ _ _ _ _ _ _ _ _ _ _ _ _ _ _ _ _ _ _ _ _ _ _ _ _ _ _ _ _ _ _ _ _ _ _ _ _ _ _ _ _ _ _ _ _ _ _ _ _ _ _ _ _ _ _ _ _ _ _ _ _ _ S A _ _ hcl _ _ st _ hL hW _ _ _ _ rs _ _ _ _ _ _ w7 _ _ hT7 _ _ s1 s2 s3 s4 s5 s6 s7 s8 s9 s10 s11 s12 s13 _ _ REL Sb7 hKl _ _ _ _ _ _ _ _ _ s0 _
 have hd : Below w7.heap.size w7 w7.drew := (Below.refl _ _).drew
 have hlm : p * n ≤ 16 * 8 := Nat.mul_le_mul hp1.2.2 hn8
 have hTq := hT7.out.call0 hd
 have SbQ := Lib.hid (Sb7.out.call hd)
 have sq : w7.drew.cell? ⟨rs, 11, none⟩ = some (.int .i64 st.bk) := SbQ.out.cell 11
 have hKq := Lib.hid (show ∀ y, K2s A rs y → y < w7.drew.heap.size from hKl.out)
 have kq : Hid (Chg (Nk w (K2s A rs)) w7 w7.drew) := Lib.hid (Chg.of_below hd)
 have hLI := Lib.hid (hL.out.drop st.bk)
 have hWf := Lib.hid (hW.out.all fun i hi => keepE_drop (hL.out.ti i hi) st.bk)
 have hcl : ∀ m, (catF (fun i => entsOf (S i).E (dropL n st.bk (S i))) m).length ≤ m * n := fun m => by
  induction m with
  | zero => simp [catF]
  | succ m ih =>
   have h2 := ents_len n (S m).E (fun x => x.bk == st.bk)
   have h3 : (entsOf (S m).E (dropL n st.bk (S m))).length ≤ n := h2
   rw [catF, List.length_append, Nat.succ_mul]
   omega
 have hcl2 := hcl p
 have D1 := twos_drop hTq hKq.out st.bk
 have D2 := twos_ddrop hTq hKq.out st.bk
 obtain ⟨LG, hLG⟩ : ∃ v, catF (fun i => entsOf (S i).E (dropL n st.bk (S i))) p = v := ⟨_, rfl⟩
 rw [hLG] at D1 D2 hcl2
 replace hLG := Lib.hid hLG
 obtain ⟨S', hS'⟩ : ∃ v, (fun i => dropSC n st.bk (S i)) = v := ⟨_, rfl⟩
 rw [hS'] at D1 D2 hLI hWf
 replace hS' := Lib.hid hS'
 replace D1 := Lib.hid D1
 replace D2 := Lib.hid D2
 clear hcl hTq hd
 go_upto_region 37 with fail
 clear s0 s1 s2 s3 s4 s5 s6 s7 s8 s9 s10 s11 s12 s13
 refine wp_region_held_drew (S := fun W => W.cell? ⟨rs, 11, none⟩ = some (.int .i64 st.bk)) (by kernel_rfl) sq (fun hHeld => ?_)
 generalize w7.drew = wq at *
 refine' tk 0 rfl rfl ?_ ?_; rotate_left; · ((intro w hSw; (try dsimp only at hSw); go_simp) <;> with_reducible rfl); try go_frame
 refine' tk 1 rfl rfl ?_ ?_; rotate_left; · ((intro w hSw; (try dsimp only at hSw); go_simp) <;> with_reducible rfl); try go_frame
 refine' tk 2 rfl rfl ?_ ?_; rotate_left; · ((intro w hSw; (try dsimp only at hSw); go_simp) <;> with_reducible rfl); try go_frame
 refine' tk 4 rfl rfl ?_ ?_; rotate_left; · ((intro w hSw; (try dsimp only at hSw); go_simp) <;> with_reducible rfl); try go_frame
 refine' tk 5 rfl rfl ?_ ?_; rotate_left; · ((intro w hSw; (try dsimp only at hSw); go_simp) <;> with_reducible rfl); try go_frame
 refine' tk 6 rfl rfl ?_ ?_; rotate_left; · ((intro w hSw; (try dsimp only at hSw); go_simp) <;> with_reducible rfl); try go_frame
 refine wpAnyH_ready (rs := [3]) (by kernel_rfl) (by simp) ?_; refine consH rfl (fun K hK => ?_) AllReadyH.nil
 go_simp
 (go_at_call 24; (with_reducible refine D1.out.mono ?_))
 rintro e w2 ⟨A1, q1, rfl, hO1, h2, k2⟩
 have P2 := SbQ.out.chg k2 (fun e => e.2 (.inr rfl))
 have s11' : w2.cell? ⟨rs, 11, none⟩ = some (.int .i64 st.bk) := P2.cell 11
 refine hK.out _ _ s11' (fun hHeld => ?_)
 clear hK K
 try go_frame
 have hz2 := k2.size
 have D3 := twos_ddrop h2 (fun y hy => by
  rcases hy with h | h
  ·
   have := hKq.out y h
   omega
  · omega) st.bk
 rw [hLG.out, hS'.out] at D3
 replace D3 := Lib.hid D3
 refine wpAnyH_ready (rs := [7]) (by kernel_rfl) (by simp) ?_; refine consH rfl (fun K hK => ?_) AllReadyH.nil
 go_simp
 (go_at_call 25; (with_reducible refine D3.out.mono ?_))
 rintro e w3' ⟨A2, q2, rfl, hO2, h3, k3⟩
 have P3 := P2.chg k3 (fun e => e.2 (.inl (.inr rfl)))
 have s11'' : w3'.cell? ⟨rs, 11, none⟩ = some (.int .i64 st.bk) := P3.cell 11
 refine hK.out _ _ s11'' (fun hHeld => ?_)
 clear hK K
 try go_frame
 have hO3 := OwnA.chg hO1 k3 (fun y hi e => e.2 (.inr (hO1.block hi)))
 have SA := same19 w3' A1 A2 q1 q2 LG hO3.reads hO2.reads (by omega)
 have kB := (kq.out.trans k2 (fun _ _ h => h)).trans (k3.mono (G := Nk w (K2s A rs)) (fun y _ e => ⟨e.1, fun h => e.2 (.inl h)⟩)) (fun _ _ h => h)
 have HF := Lib.hid fun W (hb : Below w3'.heap.size w3' W) => REL.out W S' ((h3.call0 hb).mono (K1' := K2s A rs) (K2' := K2s A rs) (fun y hy => .inl hy) (fun y hy => .inl hy)) (kB.trans (G := fun _ => False) (Chg.of_below hb) (fun b _ h => h.elim)) (hLI.out.mono (by omega)) hWf.out
 refine wpAnyH_ready (rs := [8]) (by kernel_rfl) (by simp) ?_; refine consH rfl (fun K hK => ?_) AllReadyH.nil
 go_simp
 (go_at_call 23; (with_reducible refine SA.mono ?_))
 rintro e w4' ⟨rfl, hb4⟩
 refine hK.out _ _ ((hb4.cell (block_lt_of_cell s11'')).trans s11'') (fun hHeld => ?_)
 clear hK K
 try go_frame
 refine' tk 9 rfl rfl ?_ ?_; rotate_left; · ((intro w hSw; (try dsimp only at hSw); go_simp) <;> with_reducible rfl); try go_frame
 refine wpAnyH_done (by kernel_rfl) ?_ _
 clear hHeld
 go_wp2_with fail
 go_meet
 exact HF.out _ hb4
set_option maxRecDepth 100000 in
set_option maxHeartbeats 64000000 in
theorem tablesPlay_yes_arm1_s1_s1 : tablesPlay_kinds.1 := by
 intro _ _ w _ _ _ _ _ _ p n _ _ _ _ _ _ _ b _ _ G _ _ _ _ _ _ _ _ _ _ _ _ _ _ R hy _ hnR _ _ _ _ _ _ _ _ _ _ _ _ _ _ u64 _ _ _ _ _ _ _ _ _ _ _ _ _ _ _ _ _ _ _ _ _ _ _ _ _ _ _ _ _ _ _ _ _ _ _ _ _ _ _ _ _ _ _ _ _ _ _ _ _ _ _ _ _ _ _ _ _ _ _ _ _ _ _ _ _ _ _ _ _ _ _ _ _ _ _ _ _ _ _ _ _ _ _ _ _ _ _ _ _ _ _ _ _ _ _ _ _ _ _ _ _ _ _ _ _ _ _ _ _ _ _ _ _ _ _ _ _ _ _ _ _ _ _ _ _ _ _ _ _ _ _ _ _ _ _ _ _ _ _ _ _ _ _ _ _ _ _ _ _ _ _ _ _ _ _ _ _ _ _ _ _ _ _ _ _ _ _ _ _ _ _ _ _ _ _ _ _ _ _ _ _ _ _ _ _ _ _ _ _ _ _ _ _ _ _ _ _ _ _ _ _ _ _ _ _ _ _ _ _ _ _ _ _ _ _ _ _ _ _ _ _ _ _ _ _ _ _ _ _ _ _ _ _ _ _ _ _ _ _ _ _ _ _ _ _ _ _ _ _ _ _ _ _ _ _ _ _ _ _ _ _ _ _ _ _ _ _ _ _ _ _ _ _ _ _ _ _ _ _ _ _ _ _ _ _ _ _ _ _ _ _ _ _ _ _ _ _ _ _ _ _ _ _ _ _ _ _ _ _ _ _ _ _ _ _ _ _ _ _ _ _ _ _ _ _ _ _ _ _ _ _ _ _ _ _ _ _ _ _ _ _ _ _ _ _ _ _ _ _ _ _ _ _ _ _ _ _ _ _ _ _ _ _ _ _ _ _ _ _ _ _ _ _ _ _ _ _ _ _ _ _ _ _ _ _ _ _ _ _ _ _ _ _ _ _ _ _ _ _ _ _ _ _ _ _ _ _ _ _ _ _ _ _ _ _ _ _ _ _ _ _ _ _ _ _ _ _ _ _ _ _ _ _ _ _ _ _ _ _ _ _ _ _ _ _ _ _ _ _ _ _ _ S A q cs _ _ _ st _ hL hW hwfs hcs _ _ rs _ hAl _ _ ck _ w7 _ _ hT7 hO7 _ s1 s2 s3 s4 s5 s6 s7 s8 s9 s10 s11 s12 s13 hpx _ REL Sb7 hKl _ _ _ _ _ _ _ _ _ s0 _
 have hti := hL.out.ti _ hpx
 have hLI := hL.out.open (t := st.tu) hy.out hnR.out (by omega) hpx st.bk st.n
 have hWf := hW.out.open hy.out hnR.out hpx hti hwfs.out.2 st.bk st.n
 have hce : openE (S (pIx R st.tu)) st.tu st.bk st.n = 0 → ∃ k0 : Nat, openCk R (S (pIx R st.tu)) st.tu st.bk st.n = (k0 : Int) ∧ k0 < 18446744073709551616 := fun h0 => by
  obtain ⟨k0, c0, hck0, hk0l, -⟩ := open_found hy.out hnR.out hti st.tu st.bk st.n h0
  exact ⟨k0, hck0, hk0l⟩
 have K1 := twos_open hT7.out hKl.out st.tu st.bk st.n
 obtain ⟨fV, hfV⟩ : ∃ v, openV R.cfg (S (pIx R st.tu)) st.tu st.bk st.n = v := ⟨_, rfl⟩
 rw [hfV] at K1
 replace hfV := Lib.hid hfV
 obtain ⟨ock, hock⟩ : ∃ v, openCk R (S (pIx R st.tu)) st.tu st.bk st.n = v := ⟨_, rfl⟩
 rw [hock] at K1 hce
 replace hock := Lib.hid hock
 obtain ⟨oe, hoe⟩ : ∃ v, openE (S (pIx R st.tu)) st.tu st.bk st.n = v := ⟨_, rfl⟩
 rw [hoe] at K1 hce
 replace hoe := Lib.hid hoe
 obtain ⟨S', hS'⟩ : ∃ v, updS S (pIx R st.tu) (openS R.cfg n (S (pIx R st.tu)) st.tu st.bk st.n) = v := ⟨_, rfl⟩
 rw [hS'] at K1 hLI hWf
 replace hS' := Lib.hid hS'
 replace K1 := Lib.hid K1
 replace hLI := Lib.hid hLI
 replace hWf := Lib.hid hWf
 clear hti
 go_upto_region 16 with (go_at_call 15; (with_reducible refine K1.out.mono ?_); rintro e w2 ⟨rfl, h2, k2⟩)
 change Code.wp _ _ _ _ (w2.alloc (.cells fV.entA 52))
 have BA := Blk.new w2 52 fV.entA
 have hbA := below_alloc (Below.refl w2.heap.size w2) (.cells fV.entA 52)
 have h3 := h2.call hbA
 have P3 := (Sb7.out.chg k2 (fun e => e.2 (.inr rfl))).call hbA
 have hzA : (w2.alloc (.cells fV.entA 52)).heap.size = w2.heap.size + 1 := World.size_alloc _ _
 have hz2 := k2.size
 have kA : Chg (Nk w (K2s A rs)) w7 (w2.alloc (.cells fV.entA 52)) := k2.trans (G := fun _ => False) (Chg.of_below hbA) (fun b _ h => h.elim)
 generalize w2.alloc (.cells fV.entA 52) = w3' at *
 obtain ⟨ra, hra⟩ : ∃ r, w2.heap.size = r := ⟨_, rfl⟩
 have hraK : w2.heap.size ≤ ra ∧ ra < w3'.heap.size := by omega
 have hsz : w7.heap.size ≤ w2.heap.size ∧ w2.heap.size < w3'.heap.size := by omega
 rw [hra] at BA
 try rw [hra]
 clear s0 s1 s2 s3 s4 s5 s6 s7 s8 s9 s10 s11 s12 s13 K1 k2 h2
 have s1 : w3'.cell? ⟨rs, 1, none⟩ = some (.int .i64 st.tu.p) := P3.cell 1
 have s2 : w3'.cell? ⟨rs, 2, none⟩ = some (.bool st.tu.v) := P3.cell 2
 have s3 : w3'.cell? ⟨rs, 3, none⟩ = some (.int .u64 st.tu.hi) := P3.cell 3
 have s4 : w3'.cell? ⟨rs, 4, none⟩ = some (.int .u64 st.tu.lo) := P3.cell 4
 have s5 : w3'.cell? ⟨rs, 5, none⟩ = some (.bool st.tu.v') := P3.cell 5
 have s6 : w3'.cell? ⟨rs, 6, none⟩ = some (.int .u64 st.tu.hi') := P3.cell 6
 have s7 : w3'.cell? ⟨rs, 7, none⟩ = some (.int .u64 st.tu.lo') := P3.cell 7
 have s8 : w3'.cell? ⟨rs, 8, none⟩ = some (.int .i64 st.tu.sp) := P3.cell 8
 have s9 : w3'.cell? ⟨rs, 9, none⟩ = some (.int .i64 st.tu.dp) := P3.cell 9
 have s10 : w3'.cell? ⟨rs, 10, none⟩ = some (.int .i64 st.n) := P3.cell 10
 have s11 : w3'.cell? ⟨rs, 11, none⟩ = some (.int .i64 st.bk) := P3.cell 11
 have s12 : w3'.cell? ⟨rs, 12, none⟩ = some (.int .u64 st.ck) := P3.cell 12
 have s13 : w3'.cell? ⟨rs, 13, none⟩ = some (.int .i64 st.pk) := P3.cell 13
 have OD := Lib.hid (twos_dopen h3 (fun y hy => by
  rcases hy with (h | h) | h
  ·
   have := hKl.out y h
   omega
  · omega
  · omega) st.tu hwfs.out.2 st.bk st.n)
 rw [hfV.out, hock.out, hoe.out, hS'.out] at OD
 replace BA := Lib.hid BA
 replace kA := Lib.hid kA
 clear h3 P3
 go_upto_region 17 with (go_at_call 16; (with_reducible refine OD.out.mono ?_); rintro e w4' ⟨rfl, h4, k4⟩)
 change Code.wp _ _ _ _ (w4'.alloc (.cells fV.entA 52))
 have BB := Blk.new w4' 52 fV.entA
 have hbB := below_alloc (Below.refl w4'.heap.size w4') (.cells fV.entA 52)
 have BA5 := (BA.out.chg k4 (fun e => e.2 (.inr hraK))).call hbB
 have h5 := (h4.call hbB).mono (K1' := K2s A rs) (K2' := K2s A rs) (fun y hy => .inl (.inl (.inl hy))) (fun y hy => .inl (.inl (.inl hy)))
 have kB : Chg (Nk w (K2s A rs)) w7 (w4'.alloc (.cells fV.entA 52)) := (kA.out.trans (k4.mono (G := Nk w (K2s A rs)) (fun y _ e => ⟨e.1, fun h => e.2 (.inl (.inl h))⟩)) (fun _ _ h => h)).trans (G := fun _ => False) (Chg.of_below hbB) (fun b _ h => h.elim)
 have hw5 := kB.size
 generalize w4'.alloc (.cells fV.entA 52) = w5' at *
 obtain ⟨rc, hrc⟩ : ∃ r, w4'.heap.size = r := ⟨_, rfl⟩
 rw [hrc] at BB
 try rw [hrc]
 have hEN : ∀ W, (binOp .neq 52 fV.val fV.val).run Tryz.prog W = .ok (.bool false) W := fun W => by rw [ent_neq, entB_self]; rfl
 have hoo : (oe != oe) = false := by simp
 have hcc : (ock != ock) = false := by simp
 have hO5 := OwnA.chg hO7.out kB (fun b hb e => e.2 (.inl hb))
 have S5 := Sb7.out.chg kB (fun e => e.2 (.inr rfl))
 have hbase : w.heap.size ≤ w5'.heap.size := by omega
 have hA5 : ∀ b, InB A b → w.heap.size ≤ b ∧ b < rs := fun b hb => hAl.out b hb
 replace h5 := Lib.hid h5
 replace kB := Lib.hid kB
 replace S5 := Lib.hid S5
 replace hA5 := Lib.hid hA5
 replace hce := Lib.hid hce
 clear hw5
 clear h4 k4 hbB OD s1 s2 s3 s4 s5 s6 s7 s8 s9 s10 s11 s12 s13
 by_cases h0 : oe = 0
 ·
  obtain ⟨k0, rfl, hk0⟩ := hce.out h0
  subst h0
  go_wp2_with (first
   | (refine wpList_load_entR rfl (.tmp 12) rfl ⟨ra, 0, none⟩ rfl fV (blk_at BA5) ?_)
   | (refine wpList_load_entR rfl (.tmp 15) rfl ⟨rc, 0, none⟩ rfl fV (blk_at BB) ?_)
   | (at_builtin; (refine wpList_push_u64 rfl (.tmp 133) (.tmp 135) rfl w.heap.size A q cs (k0 : Int) cs.length rfl rfl hO5 w5'.heap.size rfl rfl rfl (by omega) hbase ?_; intro A9 q9 w9' hO9 hP9)))
  go_meet
  exact ⟨S', A9, q9, cs ++ [(k0 : Int)], by simp, hO9, fun x hx => by
   rcases List.mem_append.1 hx with h | h
   · exact hcs.out x h
   ·
    obtain rfl := List.mem_singleton.1 h
    omega, by simp; omega, (h5.out.push hP9 (fun b hb => .inl hb) (fun b hb => .inl hb) (fun b hb => (hA5.out b hb).1)).mono (fun b hb => hb.elim .inr fun e => .inl (.inr e)) (fun b hb => hb.elim .inr fun e => .inl (.inr e)), hLI.out.mono (by omega), hWf.out, S5.out.chg hP9.chg fun e => by have := (hA5.out _ e).2; omega⟩
 ·
  have h0b : (oe == 0) = false := by simpa using h0
  go_wp2_with (first
   | (refine wpList_load_entR rfl (.tmp 12) rfl ⟨ra, 0, none⟩ rfl fV (blk_at BA5) ?_)
   | (refine wpList_load_entR rfl (.tmp 15) rfl ⟨rc, 0, none⟩ rfl fV (blk_at BB) ?_))
  go_meet
  exact REL.out _ _ h5.out kB.out (hLI.out.mono (by omega)) hWf.out
end Go.Proofs.YteklkljndchjiaaGreat
