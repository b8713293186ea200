/- tables: tables that nobody made. tables: the chapter's example, called. -/
import Derived.Test.YteklkljndchjiaaGreatJ39
import Derived.Test.YteklkljndchjiaaGreatJ43
import Derived.Test.YteklkljndchjiaaGreatJ30
namespace Go.Proofs.YteklkljndchjiaaGreat
open Go Go.RowKit Go.Deep Go.Maps Go.ChangeMaps
attribute [local go_sem] Oper.semAt_some
abbrev tabsZ : Array Value := #[.bool false, .int .i64 0, .int .i64 0, .int .u64 0, .int .u64 0, .int .i64 0, .int .i64 0, .int .i64 0, .int .i64 0, .int .i64 0, .int .i64 0, .slice none 0 0]
theorem tabs_given_nil (w : World) : Calls Tryz.prog 83 #[.pointer none] w fun e w' => e = .returned (.bool false) ∧ w = w' := by
 go_enter Tryz.func83, Tryz.ntmps83
 go_wp2_with fail
 go_ret
 exact ⟨rfl, rfl⟩
theorem tabs_given_plain {w : World} {g : Nat} (h : Blk w g 118 tabsZ) : Calls Tryz.prog 83 #[.pointer (some ⟨g, 0, none⟩)] w fun e w' => e = .returned (.bool false) ∧ w = w' := by
 have c11 : w.cell? ⟨g, 11, none⟩ = some (.slice none 0 0) := h.cell 11
 clear h
 go_enter Tryz.func83, Tryz.ntmps83
 go_wp2_with fail
 go_ret
 exact ⟨rfl, rfl⟩
set_option maxRecDepth 100000 in
set_option maxHeartbeats 4000000 in
theorem tabs_of_nil (t : Tup) (w : World) : Calls Tryz.prog 79 #[.pointer none, t.val] w fun e w' => e = .returned (.pointer none) ∧ Below w.heap.size w w' := by
 have GV := Lib.hid fun W => tabs_given_nil W
 have hb0 : Below w.heap.size w (w.alloc (.cells t.cells.toArray 47)) := below_alloc (Below.refl _ _) _
 go_enter Tryz.func79, Tryz.ntmps79
 go_wp2_with (go_at_call 83; (with_reducible refine (GV.out _).mono ?_); rintro e w2 ⟨rfl, rfl⟩)
 go_ret
 exact ⟨rfl, (by repeat (first | exact Below.refl _ _ | assumption | refine below_alloc ?_ _ | refine below_chain (by assumption) ?_ | refine below_call2 (by assumption) ?_ (by first | omega | (simp; done) | (simp; omega) | (simp [World.setCell]; omega)) | refine below_drewN ?_ _ | refine Below.drew ?_ | refine Below.alloc ?_ (by first | omega | (simp; done) | (simp; omega) | (simp [World.setCell]; omega)) _ | refine Below.setCell ?_ (by first | omega | (simp; done) | (simp; omega) | (simp [World.setCell]; omega)) _))⟩
set_option maxRecDepth 100000 in
set_option maxHeartbeats 4000000 in
theorem tabs_cookie_nil (x : Slt) (w : World) : Calls Tryz.prog 32 #[.pointer none, x.val] w fun e w' => e = .returned (.int .u64 0) ∧ Below w.heap.size w w' := by
 have GV := Lib.hid fun W => tabs_given_nil W
 have hb0 : Below w.heap.size w (w.alloc (.cells x.entA 52)) := below_alloc (Below.refl _ _) _
 go_enter Tryz.func32, Tryz.ntmps32
 go_wp2_with (go_at_call 83; (with_reducible refine (GV.out _).mono ?_); rintro e w2 ⟨rfl, rfl⟩)
 go_ret
 exact ⟨rfl, (by repeat (first | exact Below.refl _ _ | assumption | refine below_alloc ?_ _ | refine below_chain (by assumption) ?_ | refine below_call2 (by assumption) ?_ (by first | omega | (simp; done) | (simp; omega) | (simp [World.setCell]; omega)) | refine below_drewN ?_ _ | refine Below.drew ?_ | refine Below.alloc ?_ (by first | omega | (simp; done) | (simp; omega) | (simp [World.setCell]; omega)) _ | refine Below.setCell ?_ (by first | omega | (simp; done) | (simp; omega) | (simp [World.setCell]; omega)) _))⟩
set_option maxRecDepth 100000 in
set_option maxHeartbeats 4000000 in
theorem tabs_free_plain {w : World} {g : Nat} (h : Blk w g 118 tabsZ) (i : Int) : Calls Tryz.prog 30 #[.pointer (some ⟨g, 0, none⟩), .int .i64 i] w fun e w' => e = .returned (.int .i64 0) ∧ Below w.heap.size w w' := by
 have GV := Lib.hid (tabs_given_plain h)
 clear h
 go_enter Tryz.func30, Tryz.ntmps30
 go_wp2_with (go_at_call 83; (with_reducible refine GV.out.mono ?_); rintro e w2 ⟨rfl, rfl⟩)
 go_ret
 exact ⟨rfl, Below.refl _ _⟩
set_option maxRecDepth 100000 in
set_option maxHeartbeats 4000000 in
theorem tabs_go_plain {w : World} {g : Nat} (h : Blk w g 118 tabsZ) (nw : Int) : Calls Tryz.prog 21 #[.pointer (some ⟨g, 0, none⟩), .int .i64 nw] w fun e w' => e = .returned (.tuple #[.slice none 0 0, .int .i64 1]) ∧ Below w.heap.size w w' := by
 have hb1 : Below w.heap.size w (((w.alloc (.cells #[.int .i64 nw] 3)).alloc (.cells #[.slice none 0 0] 58)).alloc (.cells #[.int .i64 0] 35)) := (by repeat (first | exact Below.refl _ _ | assumption | refine below_alloc ?_ _ | refine below_chain (by assumption) ?_ | refine below_call2 (by assumption) ?_ (by first | omega | (simp; done) | (simp; omega) | (simp [World.setCell]; omega)) | refine below_drewN ?_ _ | refine Below.drew ?_ | refine Below.alloc ?_ (by first | omega | (simp; done) | (simp; omega) | (simp [World.setCell]; omega)) _ | refine Below.setCell ?_ (by first | omega | (simp; done) | (simp; omega) | (simp [World.setCell]; omega)) _))
 have GV := Lib.hid (tabs_given_plain (h.call hb1))
 have B1 := (Blk.new (w.alloc (.cells #[.int .i64 nw] 3)) 58 #[.slice none 0 0]).alloc (.cells #[.int .i64 0] 35)
 have B2 := Blk.new ((w.alloc (.cells #[.int .i64 nw] 3)).alloc (.cells #[.slice none 0 0] 58)) 35 #[.int .i64 0]
 simp only [World.size_alloc] at B1 B2
 clear h
 go_enter Tryz.func21, Tryz.ntmps21
 go_upto_region 1 with fail
 generalize ((w.alloc (.cells #[.int .i64 nw] 3)).alloc (.cells #[.slice none 0 0] 58)).alloc (.cells #[.int .i64 0] 35) = w1 at *
 obtain ⟨b0, hb0⟩ : ∃ b0, w.heap.size = b0 := ⟨_, rfl⟩
 rw [hb0] at B1 B2 hb1 ⊢
 have f1 := B1.frozen 0
 have f2 := B2.frozen 0
 have c1 := B1.cell 0
 have c2 := B2.cell 0
 simp at c1 c2
 go_wp2_with (go_at_call 83; (with_reducible refine GV.out.mono ?_); rintro e w2 ⟨rfl, rfl⟩)
 have s1 := (B1.set_ 0 (.slice none 0 0)).far (p := ⟨b0 + 1 + 1, 0, none⟩) (by simp) (.int .i64 1)
 have s2 := (B2.far (p := ⟨b0 + 1, 0, none⟩) (by simp) (.slice none 0 0)).set_ 0 (.int .i64 1)
 have e1 := s1.cell 0
 have e2 := s2.cell 0
 simp at e1 e2
 refine bodyPost_ret (v := .tuple #[.slice none 0 0, .int .i64 1]) (by simp [results, Tryz.results21, go_sem, e1, e2]) rfl ?_
 exact ⟨rfl, by rw [hb0]; exact (by repeat (first | exact Below.refl _ _ | assumption | refine below_alloc ?_ _ | refine below_chain (by assumption) ?_ | refine below_call2 (by assumption) ?_ (by first | omega | (simp; done) | (simp; omega) | (simp [World.setCell]; omega)) | refine below_drewN ?_ _ | refine Below.drew ?_ | refine Below.alloc ?_ (by first | omega | (simp; done) | (simp; omega) | (simp [World.setCell]; omega)) _ | refine Below.setCell ?_ (by first | omega | (simp; done) | (simp; omega) | (simp [World.setCell]; omega)) _))⟩
set_option maxRecDepth 100000 in
set_option maxHeartbeats 8000000 in
theorem tabs_find_no (v : Value) (t : Tup) (k : Int) (w : World) (GV0 : ∀ W, Below w.heap.size w W → Calls Tryz.prog 83 #[v] W fun e w' => e = .returned (.bool false) ∧ W = w') : Calls Tryz.prog 17 #[v, t.val, .int .u64 k] w fun e w' => e = .returned (.tuple #[slt0.val, .bool false]) ∧ Below w.heap.size w w' := by
 have hb0 : Below w.heap.size w ((w.alloc (.cells t.cells.toArray 47)).alloc (.cells #[.int .i64 0, .bool false, .int .u64 0, .int .u64 0, .bool false, .int .u64 0, .int .u64 0, .int .i64 0, .int .i64 0, .int .i64 0, .int .i64 0, .int .i64 0, .int .u64 0, .int .i64 0] 52)) := below_alloc (below_alloc (Below.refl _ _) _) _
 have B2 : Blk ((w.alloc (.cells t.cells.toArray 47)).alloc (.cells #[.int .i64 0, .bool false, .int .u64 0, .int .u64 0, .bool false, .int .u64 0, .int .u64 0, .int .i64 0, .int .i64 0, .int .i64 0, .int .i64 0, .int .i64 0, .int .u64 0, .int .i64 0] 52)) (w.alloc (.cells t.cells.toArray 47)).heap.size 52 slt0.entA := Blk.new (w.alloc (.cells t.cells.toArray 47)) 52 slt0.entA
 rw [World.size_alloc] at B2
 have GV := Lib.hid (GV0 _ hb0)
 clear GV0
 go_enter Tryz.func17, Tryz.ntmps17
 go_upto_region 1 with fail
 change Code.wp _ _ _ _ ((w.alloc (.cells t.cells.toArray 47)).alloc (.cells #[.int .i64 0, .bool false, .int .u64 0, .int .u64 0, .bool false, .int .u64 0, .int .u64 0, .int .i64 0, .int .i64 0, .int .i64 0, .int .i64 0, .int .i64 0, .int .u64 0, .int .i64 0] 52))
 generalize (w.alloc (.cells t.cells.toArray 47)).alloc (.cells #[.int .i64 0, .bool false, .int .u64 0, .int .u64 0, .bool false, .int .u64 0, .int .u64 0, .int .i64 0, .int .i64 0, .int .i64 0, .int .i64 0, .int .i64 0, .int .u64 0, .int .i64 0] 52) = w1 at *
 obtain ⟨rt, hrt⟩ : ∃ rt, w.heap.size = rt := ⟨_, rfl⟩
 rw [hrt] at B2
 try rw [hrt]
 go_wp2_with (first
  | (go_at_call 83; (with_reducible refine GV.out.mono ?_); rintro e w2 ⟨rfl, rfl⟩)
  | (with_reducible refine wpList_store_eblk (r := rt + 1) (z := slt0) rfl rfl (.tmp 6) (.tmp 14) rfl B2 slt0 rfl rfl ?_))
 change bodyPost _ _ _ _ _ (setEnt w1 (rt + 1) slt0)
 obtain ⟨e1, e2⟩ := setEnt_blk B2 slt0
 generalize setEnt w1 (rt + 1) slt0 = w6 at *
 refine bodyPost_ret (v := .tuple #[slt0.val, .bool false]) (find_results _ _ _ _ _ rfl rfl (EntAt.of e1)) rfl ?_
 exact ⟨rfl, below_chg hb0 e2 (fun y hy e => by have e3 : y = rt + 1 := e; omega) (by have := hb0.size; omega)⟩
set_option maxRecDepth 100000 in
set_option maxHeartbeats 8000000 in
theorem tabs_touch_no (v : Value) (t : Tup) (k : Nat) (fl : Int) (w : World) (GV0 : ∀ W, Below w.heap.size w W → Calls Tryz.prog 83 #[v] W fun e w' => e = .returned (.bool false) ∧ W = w') : Calls Tryz.prog 19 #[v, t.val, .int .u64 (k : Int), .int .i64 fl] w fun e w' => e = .returned (.tuple #[slt0.val, .bool false]) ∧ Below w.heap.size w w' := by
 have hb0 : Below w.heap.size w ((w.alloc (.cells t.cells.toArray 47)).alloc (.cells #[.int .i64 0, .bool false, .int .u64 0, .int .u64 0, .bool false, .int .u64 0, .int .u64 0, .int .i64 0, .int .i64 0, .int .i64 0, .int .i64 0, .int .i64 0, .int .u64 0, .int .i64 0] 52)) := below_alloc (below_alloc (Below.refl _ _) _) _
 have B1 := (Blk.new w 47 t.cells.toArray).alloc (.cells #[.int .i64 0, .bool false, .int .u64 0, .int .u64 0, .bool false, .int .u64 0, .int .u64 0, .int .i64 0, .int .i64 0, .int .i64 0, .int .i64 0, .int .i64 0, .int .u64 0, .int .i64 0] 52)
 have B2 : Blk ((w.alloc (.cells t.cells.toArray 47)).alloc (.cells #[.int .i64 0, .bool false, .int .u64 0, .int .u64 0, .bool false, .int .u64 0, .int .u64 0, .int .i64 0, .int .i64 0, .int .i64 0, .int .i64 0, .int .i64 0, .int .u64 0, .int .i64 0] 52)) (w.alloc (.cells t.cells.toArray 47)).heap.size 52 slt0.entA := Blk.new (w.alloc (.cells t.cells.toArray 47)) 52 slt0.entA
 rw [World.size_alloc] at B2
 have FD := Lib.hid (tabs_find_no v t k ((w.alloc (.cells t.cells.toArray 47)).alloc (.cells #[.int .i64 0, .bool false, .int .u64 0, .int .u64 0, .bool false, .int .u64 0, .int .u64 0, .int .i64 0, .int .i64 0, .int .i64 0, .int .i64 0, .int .i64 0, .int .u64 0, .int .i64 0] 52)) fun W hb => GV0 W (below_chain hb hb0))
 clear GV0
 go_enter Tryz.func19, Tryz.ntmps19
 go_upto_region 1 with fail
 change Code.wp _ _ _ _ ((w.alloc (.cells t.cells.toArray 47)).alloc (.cells #[.int .i64 0, .bool false, .int .u64 0, .int .u64 0, .bool false, .int .u64 0, .int .u64 0, .int .i64 0, .int .i64 0, .int .i64 0, .int .i64 0, .int .i64 0, .int .u64 0, .int .i64 0] 52))
 have hw1 : ((w.alloc (.cells t.cells.toArray 47)).alloc (.cells #[.int .i64 0, .bool false, .int .u64 0, .int .u64 0, .bool false, .int .u64 0, .int .u64 0, .int .i64 0, .int .i64 0, .int .i64 0, .int .i64 0, .int .i64 0, .int .u64 0, .int .i64 0] 52)).heap.size = w.heap.size + 2 := by rw [World.size_alloc, World.size_alloc]
 generalize (w.alloc (.cells t.cells.toArray 47)).alloc (.cells #[.int .i64 0, .bool false, .int .u64 0, .int .u64 0, .bool false, .int .u64 0, .int .u64 0, .int .i64 0, .int .i64 0, .int .i64 0, .int .i64 0, .int .i64 0, .int .u64 0, .int .i64 0] 52) = w1 at *
 obtain ⟨rt, hrt⟩ : ∃ rt, w.heap.size = rt := ⟨_, rfl⟩
 rw [hrt] at B1 B2 hw1
 try rw [hrt]
 obtain ⟨t0, t1, t2, t3, t4, t5, t6, t7, t8⟩ := TupAt.of B1
 replace B2 := Lib.hid B2
 clear B1
 go_upto_region 2 with (go_at_call 17; (with_reducible refine FD.out.mono ?_); rintro e w2 ⟨rfl, hT2⟩; clear t0 t1 t2 t3 t4 t5 t6 t7 t8; replace hT2 := Lib.hid hT2)
 change Code.wp _ _ _ _ (w2.alloc (.cells slt0.entA 52))
 have hba : Below w2.heap.size w2 (w2.alloc (.cells slt0.entA 52)) := below_alloc (Below.refl _ _) _
 have hb3 := below_chain hba (below_chain hT2.out hb0)
 have hB3 : Blk (w2.alloc (.cells slt0.entA 52)) (rt + 1) 52 slt0.entA := (B2.out.call hT2.out).call hba
 clear hT2 hba B2 FD hb0
 generalize w2.alloc (.cells slt0.entA 52) = w3 at *
 go_wp2_with (with_reducible refine wpList_store_eblk (r := rt + 1) (z := slt0) rfl rfl (.tmp 8) (.tmp 21) rfl hB3 slt0 rfl rfl ?_)
 change bodyPost _ _ _ _ _ (setEnt w3 (rt + 1) slt0)
 obtain ⟨e1, e2⟩ := setEnt_blk hB3 slt0
 generalize setEnt w3 (rt + 1) slt0 = w6 at *
 refine bodyPost_ret (v := .tuple #[slt0.val, .bool false]) (touch_results _ _ _ _ _ rfl rfl (EntAt.of e1)) rfl ?_
 exact ⟨rfl, below_chg hb3 e2 (fun y hy e => by have e3 : y = rt + 1 := e; omega) (by have := hb3.size; omega)⟩
set_option maxRecDepth 100000 in
set_option maxHeartbeats 8000000 in
theorem tabs_open_nil (t : Tup) (bk fl : Int) (w : World) : Calls Tryz.prog 15 #[.pointer none, t.val, .int .i64 bk, .int .i64 fl] w fun e w' => e = .returned (.tuple #[slt0.val, .int .u64 0, .int .i64 1]) ∧ Below w.heap.size w w' := by
 have B1 := (Blk.new w 47 t.cells.toArray).alloc (.cells #[.int .i64 0, .bool false, .int .u64 0, .int .u64 0, .bool false, .int .u64 0, .int .u64 0, .int .i64 0, .int .i64 0, .int .i64 0, .int .i64 0, .int .i64 0, .int .u64 0, .int .i64 0] 52)
 have B2 : Blk ((w.alloc (.cells t.cells.toArray 47)).alloc (.cells #[.int .i64 0, .bool false, .int .u64 0, .int .u64 0, .bool false, .int .u64 0, .int .u64 0, .int .i64 0, .int .i64 0, .int .i64 0, .int .i64 0, .int .i64 0, .int .u64 0, .int .i64 0] 52)) (w.alloc (.cells t.cells.toArray 47)).heap.size 52 slt0.entA := Blk.new (w.alloc (.cells t.cells.toArray 47)) 52 slt0.entA
 have hb0 : Below w.heap.size w ((w.alloc (.cells t.cells.toArray 47)).alloc (.cells #[.int .i64 0, .bool false, .int .u64 0, .int .u64 0, .bool false, .int .u64 0, .int .u64 0, .int .i64 0, .int .i64 0, .int .i64 0, .int .i64 0, .int .i64 0, .int .u64 0, .int .i64 0] 52)) := below_alloc (below_alloc (Below.refl _ _) _) _
 rw [World.size_alloc] at B2
 go_enter Tryz.func15, Tryz.ntmps15
 go_upto_region 1 with fail
 change Code.wp _ _ _ _ ((w.alloc (.cells t.cells.toArray 47)).alloc (.cells #[.int .i64 0, .bool false, .int .u64 0, .int .u64 0, .bool false, .int .u64 0, .int .u64 0, .int .i64 0, .int .i64 0, .int .i64 0, .int .i64 0, .int .i64 0, .int .u64 0, .int .i64 0] 52))
 have hw1 : ((w.alloc (.cells t.cells.toArray 47)).alloc (.cells #[.int .i64 0, .bool false, .int .u64 0, .int .u64 0, .bool false, .int .u64 0, .int .u64 0, .int .i64 0, .int .i64 0, .int .i64 0, .int .i64 0, .int .i64 0, .int .u64 0, .int .i64 0] 52)).heap.size = w.heap.size + 2 := by rw [World.size_alloc, World.size_alloc]
 generalize (w.alloc (.cells t.cells.toArray 47)).alloc (.cells #[.int .i64 0, .bool false, .int .u64 0, .int .u64 0, .bool false, .int .u64 0, .int .u64 0, .int .i64 0, .int .i64 0, .int .i64 0, .int .i64 0, .int .i64 0, .int .u64 0, .int .i64 0] 52) = w1 at *
 obtain ⟨rt, hrt⟩ : ∃ rt, w.heap.size = rt := ⟨_, rfl⟩
 rw [hrt] at B1 B2 hw1
 try rw [hrt]
 have OF := Lib.hid fun (W : World) => tabs_of_nil t W
 have OP := Lib.hid fun (W : World) => tab_open_nil t bk fl W
 have hS1 : TupAt rt t w1.drew := TupAt.of B1
 have FIN := Lib.hid fun (q : Nat) (wX : World) (hb : Below w1.heap.size w1 wX) (hq : w1.heap.size ≤ q) (hB : Blk wX q 52 slt0.entA) => show Blk (setEnt wX q slt0) (rt + 1) 52 slt0.entA ∧ Below w.heap.size w (setEnt wX q slt0) from by
  obtain ⟨-, e2⟩ := setEnt_blk hB slt0
  exact ⟨(B2.call hb).chg e2 fun e => by have e3 : rt + 1 = q := e; omega, below_chg (below_chain hb hb0) e2 (fun y hy e => by have e3 : y = q := e; omega) (by have := hb0.size; have := hb.size; omega)⟩
 clear B1 B2 hb0
 go_cut [11, 12] from 13 to 30 (fun x11 x12 wx => ∃ q, x11 = .pointer (some ⟨q, 0, none⟩) ∧ x12 = .int .i64 1 ∧ Blk wx (rt + 1) 52 slt0.entA ∧ Below w.heap.size w wx)
 case first =>
  as_aux_lemma =>
  refine wp_region_held_drew (S := TupAt rt t) (by kernel_rfl) hS1 (fun hHeld => ?_)
  have hd : Below w1.heap.size w1 w1.drew := (Below.refl _ _).drew
  have hzd : w1.drew.heap.size = w1.heap.size := rfl
  generalize w1.drew = wd at *
  replace hzd := Lib.hid hzd
  refine' tk 0 rfl rfl ?_ ?_; rotate_left; · ((intro w hSw; (try dsimp only at hSw); go_simp) <;> with_reducible rfl); try go_frame
  refine' tk 1 rfl rfl ?_ ?_; rotate_left; · ((intro w hSw; (try dsimp only at hSw); go_simp) <;> with_reducible rfl); try go_frame
  refine' tk 3 rfl rfl ?_ ?_; rotate_left; · ((intro w hSw; (try dsimp only at hSw); go_simp) <;> with_reducible rfl); try go_frame
  refine' tk 4 rfl rfl ?_ ?_; rotate_left; · ((intro w hSw; (try dsimp only at hSw); go_simp) <;> with_reducible rfl); try go_frame
  refine' tk 5 rfl rfl ?_ ?_; rotate_left; · ((intro w hSw; (try dsimp only at hSw); go_simp) <;> with_reducible rfl); try go_frame
  refine wpAnyH_ready (rs := [2, 10]) (by kernel_rfl) (by simp) ?_; refine consH rfl (fun K hK => ?_) (consH rfl (fun K hK => ?_) AllReadyH.nil)
  ·
   go_simp
   (go_at_call 79; (with_reducible refine (OF.out _).mono ?_))
   rintro e w2 ⟨rfl, hb2⟩
   refine hK.out _ _ (hHeld.call hb2) (fun hHeld => ?_)
   clear hK K
   try go_frame
   have hsz2 := hb2.size
   refine wpAnyH_ready (rs := [6, 10]) (by kernel_rfl) (by simp) ?_; refine consH rfl (fun K hK => ?_) (consH rfl (fun K hK => ?_) AllReadyH.nil)
   ·
    go_simp
    (go_at_call 80; (with_reducible refine (OP.out _).mono ?_))
    rintro e w3 ⟨rfl, hb3⟩
    refine hK.out _ _ (hHeld.call hb3) (fun hHeld => ?_)
    clear hK K
    try go_frame
    refine' tk 7 rfl rfl ?_ ?_; rotate_left; · ((intro w hSw; (try dsimp only at hSw); go_simp) <;> with_reducible rfl); try go_frame
    refine' tk 8 rfl rfl ?_ ?_; rotate_left; · ((intro w hSw; (try dsimp only at hSw); go_simp) <;> with_reducible rfl); try go_frame
    refine' tk 9 rfl rfl ?_ ?_; rotate_left; · ((intro w hSw; (try dsimp only at hSw); go_simp) <;> with_reducible rfl); try go_frame
    refine wpAnyH_ready (rs := [10]) (by kernel_rfl) (by simp) ?_; refine consH rfl (fun K hK => ?_) AllReadyH.nil
    go_simp
    refine hK.out _ _ (hHeld.call (below_alloc (Below.refl _ _) _)) (fun hHeld => ?_)
    clear hK K
    try go_frame
    have hsz := hb3.size
    refine wpAnyH_ready (rs := [11]) (by kernel_rfl) (by simp) ?_; refine consH rfl (fun K hK => ?_) AllReadyH.nil
    rw [if_pos (by rfl)]
    have BQ : Blk (w3.alloc (.cells #[.int .i64 0, .bool false, .int .u64 0, .int .u64 0, .bool false, .int .u64 0, .int .u64 0, .int .i64 0, .int .i64 0, .int .i64 0, .int .i64 0, .int .i64 0, .int .u64 0, .int .i64 0] 52)) w3.heap.size 52 slt0.entA := Blk.new w3 52 slt0.entA
    with_reducible refine wp_store_eblk (r := w3.heap.size) (z := slt0) (.tmp 11) (.tmp 21) rfl BQ slt0 rfl rfl ?_
    refine hK.out _ _ (hHeld.chg (setEnt_blk BQ slt0).2 (fun e => by have e2 : rt = w3.heap.size := e; have h9 := hzd.out; omega)) (fun hHeld => ?_)
    clear hK K
    try go_frame
    refine' tk 12 rfl rfl ?_ ?_; rotate_left; · ((intro w hSw; (try dsimp only at hSw); go_simp) <;> with_reducible rfl); try go_frame
    refine wpAnyH_done (by kernel_rfl) ?_ _
    go_wp2_with fail
    go_meet
    exact ⟨w3.heap.size, rfl, rfl, FIN.out w3.heap.size _ (below_chain (below_alloc (Below.refl w3.heap.size w3) (.cells #[.int .i64 0, .bool false, .int .u64 0, .int .u64 0, .bool false, .int .u64 0, .int .u64 0, .int .i64 0, .int .i64 0, .int .i64 0, .int .i64 0, .int .i64 0, .int .u64 0, .int .i64 0] 52)) (below_chain hb3 (below_chain hb2 hd))) (by have h9 := hzd.out; omega) BQ⟩
   ·
    go_simp
    refine hK.out _ _ (hHeld.call (below_alloc (Below.refl _ _) _)) (fun hHeld => ?_)
    clear hK K
    try go_frame
    refine wpAnyH_ready (rs := [6]) (by kernel_rfl) (by simp) ?_; refine consH rfl (fun K hK => ?_) AllReadyH.nil
    go_simp
    (go_at_call 80; (with_reducible refine (OP.out _).mono ?_))
    rintro e w3 ⟨rfl, hb3⟩
    refine hK.out _ _ (hHeld.call hb3) (fun hHeld => ?_)
    clear hK K
    try go_frame
    refine' tk 7 rfl rfl ?_ ?_; rotate_left; · ((intro w hSw; (try dsimp only at hSw); go_simp) <;> with_reducible rfl); try go_frame
    refine' tk 8 rfl rfl ?_ ?_; rotate_left; · ((intro w hSw; (try dsimp only at hSw); go_simp) <;> with_reducible rfl); try go_frame
    refine' tk 9 rfl rfl ?_ ?_; rotate_left; · ((intro w hSw; (try dsimp only at hSw); go_simp) <;> with_reducible rfl); try go_frame
    have hsa : (w2.alloc (.cells #[.int .i64 0, .bool false, .int .u64 0, .int .u64 0, .bool false, .int .u64 0, .int .u64 0, .int .i64 0, .int .i64 0, .int .i64 0, .int .i64 0, .int .i64 0, .int .u64 0, .int .i64 0] 52)).heap.size = w2.heap.size + 1 := World.size_alloc _ _
    refine wpAnyH_ready (rs := [11]) (by kernel_rfl) (by simp) ?_; refine consH rfl (fun K hK => ?_) AllReadyH.nil
    rw [if_pos (by rfl)]
    have BQ : Blk w3 w2.heap.size 52 slt0.entA := (Blk.new w2 52 slt0.entA).call hb3
    with_reducible refine wp_store_eblk (r := w2.heap.size) (z := slt0) (.tmp 11) (.tmp 21) rfl BQ slt0 rfl rfl ?_
    refine hK.out _ _ (hHeld.chg (setEnt_blk BQ slt0).2 (fun e => by have e2 : rt = w2.heap.size := e; have h9 := hzd.out; omega)) (fun hHeld => ?_)
    clear hK K
    try go_frame
    refine' tk 12 rfl rfl ?_ ?_; rotate_left; · ((intro w hSw; (try dsimp only at hSw); go_simp) <;> with_reducible rfl); try go_frame
    refine wpAnyH_done (by kernel_rfl) ?_ _
    go_wp2_with fail
    go_meet
    exact ⟨w2.heap.size, rfl, rfl, FIN.out w2.heap.size _ (below_chain hb3 (below_chain (below_alloc (Below.refl w2.heap.size w2) (.cells #[.int .i64 0, .bool false, .int .u64 0, .int .u64 0, .bool false, .int .u64 0, .int .u64 0, .int .i64 0, .int .i64 0, .int .i64 0, .int .i64 0, .int .i64 0, .int .u64 0, .int .i64 0] 52)) (below_chain hb2 hd))) (by have h9 := hzd.out; omega) BQ⟩
  ·
   go_simp
   refine hK.out _ _ (hHeld.call (below_alloc (Below.refl _ _) _)) (fun hHeld => ?_)
   clear hK K
   try go_frame
   refine wpAnyH_ready (rs := [2]) (by kernel_rfl) (by simp) ?_; refine consH rfl (fun K hK => ?_) AllReadyH.nil
   go_simp
   (go_at_call 79; (with_reducible refine (OF.out _).mono ?_))
   rintro e w2 ⟨rfl, hb2⟩
   refine hK.out _ _ (hHeld.call hb2) (fun hHeld => ?_)
   clear hK K
   try go_frame
   refine wpAnyH_ready (rs := [6]) (by kernel_rfl) (by simp) ?_; refine consH rfl (fun K hK => ?_) AllReadyH.nil
   go_simp
   (go_at_call 80; (with_reducible refine (OP.out _).mono ?_))
   rintro e w3 ⟨rfl, hb3⟩
   refine hK.out _ _ (hHeld.call hb3) (fun hHeld => ?_)
   clear hK K
   try go_frame
   refine' tk 7 rfl rfl ?_ ?_; rotate_left; · ((intro w hSw; (try dsimp only at hSw); go_simp) <;> with_reducible rfl); try go_frame
   refine' tk 8 rfl rfl ?_ ?_; rotate_left; · ((intro w hSw; (try dsimp only at hSw); go_simp) <;> with_reducible rfl); try go_frame
   refine' tk 9 rfl rfl ?_ ?_; rotate_left; · ((intro w hSw; (try dsimp only at hSw); go_simp) <;> with_reducible rfl); try go_frame
   refine wpAnyH_ready (rs := [11]) (by kernel_rfl) (by simp) ?_; refine consH rfl (fun K hK => ?_) AllReadyH.nil
   rw [if_pos (by rfl)]
   have BQ : Blk w3 wd.heap.size 52 slt0.entA := ((Blk.new wd 52 slt0.entA).call hb2).call hb3
   with_reducible refine wp_store_eblk (r := wd.heap.size) (z := slt0) (.tmp 11) (.tmp 21) rfl BQ slt0 rfl rfl ?_
   refine hK.out _ _ (hHeld.chg (setEnt_blk BQ slt0).2 (fun e => by have e2 : rt = wd.heap.size := e; have h9 := hzd.out; omega)) (fun hHeld => ?_)
   clear hK K
   try go_frame
   refine' tk 12 rfl rfl ?_ ?_; rotate_left; · ((intro w hSw; (try dsimp only at hSw); go_simp) <;> with_reducible rfl); try go_frame
   refine wpAnyH_done (by kernel_rfl) ?_ _
   go_wp2_with fail
   go_meet
   exact ⟨wd.heap.size, rfl, rfl, FIN.out wd.heap.size _ (below_chain hb3 (below_chain hb2 (below_chain (below_alloc (Below.refl wd.heap.size wd) (.cells #[.int .i64 0, .bool false, .int .u64 0, .int .u64 0, .bool false, .int .u64 0, .int .u64 0, .int .i64 0, .int .i64 0, .int .i64 0, .int .i64 0, .int .i64 0, .int .u64 0, .int .i64 0] 52)) hd))) (by have h9 := hzd.out; omega) BQ⟩
 case rest =>
  obtain ⟨q, rfl, rfl, BR, hbw⟩ := hcut
  clear FIN OP OF hS1
  go_wp2_with (with_reducible refine wpList_store_eblk (r := rt + 1) (z := slt0) rfl rfl (.tmp 8) (.tmp 25) rfl BR slt0 rfl rfl ?_)
  change bodyPost _ _ _ _ _ (setEnt wc (rt + 1) slt0)
  obtain ⟨e1, e2⟩ := setEnt_blk BR slt0
  generalize setEnt wc (rt + 1) slt0 = w6 at *
  refine bodyPost_ret (v := .tuple #[slt0.val, .int .u64 0, .int .i64 1]) (open_results _ _ _ _ _ _ rfl rfl rfl (EntAt.of e1)) rfl ?_
  exact ⟨rfl, below_chg hbw e2 (fun y hy e => by have e3 : y = rt + 1 := e; omega) (by have := hbw.size; omega)⟩
set_option maxRecDepth 100000 in
set_option maxHeartbeats 2000000 in
theorem each_iter_nil (Bx : Nat) : IterN Tryz.prog 170 #[.pointer (some ⟨Bx, 0, none⟩)] (fun _ => .pointer none) 0 (fun W => W.cell? ⟨Bx, 0, none⟩ = some (.pointer none)) := fun l J Jx W hJ hY h0 => by
 have b0 := hJ 0 W h0
 (refine callsIn_of_wp Tryz.func170 rfl trivial ?_ rfl); simp only [Tryz.ntmps170, List.size_toArray, List.length_cons, List.length_nil, Nat.reduceAdd, Nat.reduceSub, Array.replicate_succ, Array.replicate_zero, List.push_toArray, List.append_toArray, List.nil_append, List.cons_append]
 gi_wp2
 refine bodyPost_ret (results_none rfl _ _ _) rfl ?_
 exact ⟨⟨_, rfl⟩, .inl h0⟩
set_option maxRecDepth 100000 in
set_option maxHeartbeats 2000000 in
theorem each_iter_plain (Bx g : Nat) : IterN Tryz.prog 170 #[.pointer (some ⟨Bx, 0, none⟩)] (fun _ => .pointer none) 0 (fun W => W.cell? ⟨Bx, 0, none⟩ = some (.pointer (some ⟨g, 0, none⟩)) ∧ W.cell? ⟨g, 11, none⟩ = some (.slice none 0 0)) := fun l J Jx W hJ hY h0 => by
 obtain ⟨b0, c0⟩ := hJ 0 W h0
 (refine callsIn_of_wp Tryz.func170 rfl trivial ?_ rfl); simp only [Tryz.ntmps170, List.size_toArray, List.length_cons, List.length_nil, Nat.reduceAdd, Nat.reduceSub, Array.replicate_succ, Array.replicate_zero, List.push_toArray, List.append_toArray, List.nil_append, List.cons_append]
 gi_wp2
 gi_loopw [12] (fun i wr => i = .int .i64 0 ∧ J 0 wr) (fun _ _ => 0)
 case atStart => exact ⟨rfl, h0⟩
 case round =>
  obtain ⟨rfl, hJs⟩ := hrel
  gi_wp2
  go_end0
  exact ⟨⟨_, rfl⟩, .inl hJs⟩
set_option maxRecDepth 100000 in
set_option maxHeartbeats 4000000 in
theorem tabs_looks_nil (w : World) : Calls Tryz.prog 28 #[.pointer none] w fun e w' => e = .returned (.int .i64 0) ∧ Below w.heap.size w w' := by
 refine (callsIn_wide (n := 9)).1 (callsIn_of_wp_marks Tryz.func28 rfl trivial ?_ rfl)
 simp only [Tryz.ntmps28, List.size_toArray, List.length_cons, List.length_nil, Nat.reduceAdd, Nat.reduceSub, Array.replicate_succ, Array.replicate_zero, List.push_toArray, List.append_toArray, List.nil_append, List.cons_append]
 refine (wpIn_wide (n := 9)).2 ?_
 go_wp2_with (go_at_call 90; (with_reducible refine (tabs_each _ _).mono ?_); rintro e w2 ⟨rfl, hw2⟩)
 have B1 := (Blk.new w 3 #[.int .i64 0]).alloc (.cells #[.pointer none] 34)
 have B2 := Blk.new (w.alloc (.cells #[.int .i64 0] 3)) 34 #[.pointer none]
 have hb2 : Below w.heap.size w ((w.alloc (.cells #[.int .i64 0] 3)).alloc (.cells #[.pointer none] 34)) := (by repeat (first | exact Below.refl _ _ | assumption | refine below_alloc ?_ _ | refine below_chain (by assumption) ?_ | refine below_call2 (by assumption) ?_ (by first | omega | (simp; done) | (simp; omega) | (simp [World.setCell]; omega)) | refine below_drewN ?_ _ | refine Below.drew ?_ | refine Below.alloc ?_ (by first | omega | (simp; done) | (simp; omega) | (simp [World.setCell]; omega)) _ | refine Below.setCell ?_ (by first | omega | (simp; done) | (simp; omega) | (simp [World.setCell]; omega)) _))
 have hz2 : w2.heap.size = w.heap.size + 2 := by rw [hw2, World.size_alloc, World.size_alloc]
 rw [World.size_alloc] at B2
 rw [← hw2] at B1 B2 hb2 ⊢
 clear hw2
 obtain ⟨bo, hbo⟩ : ∃ bo, w.heap.size = bo := ⟨_, rfl⟩
 rw [hbo] at B1 B2 hz2 hb2 ⊢
 refine wp_rangeN 0 (D := bo + 2) (by rw [hz2]) (gf := 170) (lb := #[.pointer (some ⟨bo + 1, 0, none⟩)]) rfl (enters_of Tryz.func170 (by kernel_rfl) rfl) (fun _ => .pointer none) rfl (fun W => W.cell? ⟨bo + 1, 0, none⟩ = some (.pointer none))
  (each_iter_nil (bo + 1)) (fun _ W => Below bo w W ∧ bo + 3 < W.heap.size ∧ Blk W bo 3 #[.int .i64 0] ∧ Blk W (bo + 1) 34 #[.pointer none])
  (fun _ _ => False) ?hC ?hI (fun _ _ _ _ h => h.elim) ?h0 ?a1 ?assign ?body ?done (fun _ _ h => h.elim)
 case hC =>
  rintro k W ⟨-, -, -, h5⟩
  exact h5.cell 0
 case hI =>
  rintro k W o o' ⟨h2, h3, h4, h5⟩ ho -
  have k1 := chg_putObj W (bo + 3) o'
  exact ⟨below_chg h2 k1 (fun y hy e => by have e2 : y = bo + 3 := e; omega) (by omega), by rw [World.putObj_size]; exact h3, h4.chg k1 (fun e => by have e2 : bo = bo + 3 := e; omega), h5.chg k1 (fun e => by have e2 : bo + 1 = bo + 3 := e; omega)⟩
 case h0 =>
  intro o
  have hb3 : Below w2.heap.size w2 ((w2.alloc (.deferred (some []))).alloc o) := (by repeat (first | exact Below.refl _ _ | assumption | refine below_alloc ?_ _ | refine below_chain (by assumption) ?_ | refine below_call2 (by assumption) ?_ (by first | omega | (simp; done) | (simp; omega) | (simp [World.setCell]; omega)) | refine below_drewN ?_ _ | refine Below.drew ?_ | refine Below.alloc ?_ (by first | omega | (simp; done) | (simp; omega) | (simp [World.setCell]; omega)) _ | refine Below.setCell ?_ (by first | omega | (simp; done) | (simp; omega) | (simp [World.setCell]; omega)) _))
  exact ⟨below_chg hb2 (Chg.of_below hb3) (fun _ _ h => h) (by omega), by rw [World.size_alloc, World.size_alloc]; omega, B1.call hb3, B2.call hb3⟩
 case assign =>
  intro l k W K hK
  gi_wp2
  exact hK
 case body =>
  intro l k W od ol hk
  omega
 case done =>
  rintro W ⟨h2, h3, h4, h5⟩ hd
  have c0 := h4.cell 0
  simp at c0
  go_wp2
  refine ⟨by simp, .inl ⟨_, _, rfl, run_takeDeferred hd, ?_⟩⟩
  exact ⟨_, results_tmp rfl _ _ _, rfl, by rw [hbo]; exact below_chg h2 (chg_putObj W (bo + 2) _) (fun y hy e => by have e2 : y = bo + 2 := e; omega) (by omega)⟩
set_option maxRecDepth 100000 in
set_option maxHeartbeats 4000000 in
theorem tabs_live_nil (w : World) : Calls Tryz.prog 27 #[.pointer none] w fun e w' => e = .returned (.slice none 0 0) ∧ Below w.heap.size w w' := by
 refine (callsIn_wide (n := 9)).1 (callsIn_of_wp_marks Tryz.func27 rfl trivial ?_ rfl)
 simp only [Tryz.ntmps27, List.size_toArray, List.length_cons, List.length_nil, Nat.reduceAdd, Nat.reduceSub, Array.replicate_succ, Array.replicate_zero, List.push_toArray, List.append_toArray, List.nil_append, List.cons_append]
 refine (wpIn_wide (n := 9)).2 ?_
 go_wp2_with (go_at_call 90; (with_reducible refine (tabs_each _ _).mono ?_); rintro e w2 ⟨rfl, hw2⟩)
 have B1 := (Blk.new w 58 #[.slice none 0 0]).alloc (.cells #[.pointer none] 34)
 have B2 := Blk.new (w.alloc (.cells #[.slice none 0 0] 58)) 34 #[.pointer none]
 have hb2 : Below w.heap.size w ((w.alloc (.cells #[.slice none 0 0] 58)).alloc (.cells #[.pointer none] 34)) := (by repeat (first | exact Below.refl _ _ | assumption | refine below_alloc ?_ _ | refine below_chain (by assumption) ?_ | refine below_call2 (by assumption) ?_ (by first | omega | (simp; done) | (simp; omega) | (simp [World.setCell]; omega)) | refine below_drewN ?_ _ | refine Below.drew ?_ | refine Below.alloc ?_ (by first | omega | (simp; done) | (simp; omega) | (simp [World.setCell]; omega)) _ | refine Below.setCell ?_ (by first | omega | (simp; done) | (simp; omega) | (simp [World.setCell]; omega)) _))
 have hz2 : w2.heap.size = w.heap.size + 2 := by rw [hw2, World.size_alloc, World.size_alloc]
 rw [World.size_alloc] at B2
 rw [← hw2] at B1 B2 hb2 ⊢
 clear hw2
 obtain ⟨bo, hbo⟩ : ∃ bo, w.heap.size = bo := ⟨_, rfl⟩
 rw [hbo] at B1 B2 hz2 hb2 ⊢
 refine wp_rangeN 0 (D := bo + 2) (by rw [hz2]) (gf := 170) (lb := #[.pointer (some ⟨bo + 1, 0, none⟩)]) rfl (enters_of Tryz.func170 (by kernel_rfl) rfl) (fun _ => .pointer none) rfl (fun W => W.cell? ⟨bo + 1, 0, none⟩ = some (.pointer none))
  (each_iter_nil (bo + 1)) (fun _ W => Below bo w W ∧ bo + 3 < W.heap.size ∧ Blk W bo 58 #[.slice none 0 0] ∧ Blk W (bo + 1) 34 #[.pointer none])
  (fun _ _ => False) ?hC ?hI (fun _ _ _ _ h => h.elim) ?h0 ?a1 ?assign ?body ?done (fun _ _ h => h.elim)
 case hC =>
  rintro k W ⟨-, -, -, h5⟩
  exact h5.cell 0
 case hI =>
  rintro k W o o' ⟨h2, h3, h4, h5⟩ ho -
  have k1 := chg_putObj W (bo + 3) o'
  exact ⟨below_chg h2 k1 (fun y hy e => by have e2 : y = bo + 3 := e; omega) (by omega), by rw [World.putObj_size]; exact h3, h4.chg k1 (fun e => by have e2 : bo = bo + 3 := e; omega), h5.chg k1 (fun e => by have e2 : bo + 1 = bo + 3 := e; omega)⟩
 case h0 =>
  intro o
  have hb3 : Below w2.heap.size w2 ((w2.alloc (.deferred (some []))).alloc o) := (by repeat (first | exact Below.refl _ _ | assumption | refine below_alloc ?_ _ | refine below_chain (by assumption) ?_ | refine below_call2 (by assumption) ?_ (by first | omega | (simp; done) | (simp; omega) | (simp [World.setCell]; omega)) | refine below_drewN ?_ _ | refine Below.drew ?_ | refine Below.alloc ?_ (by first | omega | (simp; done) | (simp; omega) | (simp [World.setCell]; omega)) _ | refine Below.setCell ?_ (by first | omega | (simp; done) | (simp; omega) | (simp [World.setCell]; omega)) _))
  exact ⟨below_chg hb2 (Chg.of_below hb3) (fun _ _ h => h) (by omega), by rw [World.size_alloc, World.size_alloc]; omega, B1.call hb3, B2.call hb3⟩
 case assign =>
  intro l k W K hK
  gi_wp2
  exact hK
 case body =>
  intro l k W od ol hk
  omega
 case done =>
  rintro W ⟨h2, h3, h4, h5⟩ hd
  have c0 := h4.cell 0
  simp at c0
  go_wp2
  refine ⟨by simp, .inl ⟨_, _, rfl, run_takeDeferred hd, ?_⟩⟩
  exact ⟨_, results_tmp rfl _ _ _, rfl, by rw [hbo]; exact below_chg h2 (chg_putObj W (bo + 2) _) (fun y hy e => by have e2 : y = bo + 2 := e; omega) (by omega)⟩
set_option maxRecDepth 100000 in
set_option maxHeartbeats 4000000 in
theorem tabs_drop_plain {w : World} {g : Nat} (h : Blk w g 118 tabsZ) (bk : Int) : Calls Tryz.prog 24 #[.pointer (some ⟨g, 0, none⟩), .int .i64 bk] w fun e w' => e = .returned (.slice none 0 0) ∧ Below w.heap.size w w' := by
 have hgl := h.lt
 refine (callsIn_wide (n := 9)).1 (callsIn_of_wp_marks Tryz.func24 rfl trivial ?_ rfl)
 simp only [Tryz.ntmps24, List.size_toArray, List.length_cons, List.length_nil, Nat.reduceAdd, Nat.reduceSub, Array.replicate_succ, Array.replicate_zero, List.push_toArray, List.append_toArray, List.nil_append, List.cons_append]
 refine (wpIn_wide (n := 9)).2 ?_
 go_wp2_with (go_at_call 90; (with_reducible refine (tabs_each _ _).mono ?_); rintro e w2 ⟨rfl, hw2⟩)
 have B1 := (Blk.new (w.alloc (.cells #[.int .i64 bk] 3)) 58 #[.slice none 0 0]).alloc (.cells #[.pointer (some ⟨g, 0, none⟩)] 34)
 have B2 := Blk.new ((w.alloc (.cells #[.int .i64 bk] 3)).alloc (.cells #[.slice none 0 0] 58)) 34 #[.pointer (some ⟨g, 0, none⟩)]
 have hb2 : Below w.heap.size w (((w.alloc (.cells #[.int .i64 bk] 3)).alloc (.cells #[.slice none 0 0] 58)).alloc (.cells #[.pointer (some ⟨g, 0, none⟩)] 34)) := (by repeat (first | exact Below.refl _ _ | assumption | refine below_alloc ?_ _ | refine below_chain (by assumption) ?_ | refine below_call2 (by assumption) ?_ (by first | omega | (simp; done) | (simp; omega) | (simp [World.setCell]; omega)) | refine below_drewN ?_ _ | refine Below.drew ?_ | refine Below.alloc ?_ (by first | omega | (simp; done) | (simp; omega) | (simp [World.setCell]; omega)) _ | refine Below.setCell ?_ (by first | omega | (simp; done) | (simp; omega) | (simp [World.setCell]; omega)) _))
 have hz2 : w2.heap.size = w.heap.size + 3 := by rw [hw2, World.size_alloc, World.size_alloc, World.size_alloc]
 simp only [World.size_alloc] at B1 B2
 rw [← hw2] at B1 B2 hb2 ⊢
 clear hw2
 have hG := h.call hb2
 obtain ⟨b0, hb0⟩ : ∃ b0, w.heap.size = b0 := ⟨_, rfl⟩
 rw [hb0] at B1 B2 hz2 hgl hb2 ⊢
 refine wp_rangeN 0 (D := b0 + 3) (by rw [hz2]) (gf := 170) (lb := #[.pointer (some ⟨b0 + 2, 0, none⟩)]) rfl (enters_of Tryz.func170 (by kernel_rfl) rfl) (fun _ => .pointer none) rfl (fun W => W.cell? ⟨b0 + 2, 0, none⟩ = some (.pointer (some ⟨g, 0, none⟩)) ∧ W.cell? ⟨g, 11, none⟩ = some (.slice none 0 0))
  (each_iter_plain (b0 + 2) g) (fun _ W => Below b0 w W ∧ b0 + 5 ≤ W.heap.size ∧ Blk W (b0 + 1) 58 #[.slice none 0 0] ∧ Blk W (b0 + 2) 34 #[.pointer (some ⟨g, 0, none⟩)] ∧ Blk W g 118 tabsZ)
  (fun _ _ => False) ?hC ?hI (fun _ _ _ _ h => h.elim) ?h0 ?a1 ?assign ?body ?done (fun _ _ h => h.elim)
 case hC =>
  rintro k W ⟨-, -, -, h5, h6⟩
  exact ⟨h5.cell 0, h6.cell 11⟩
 case hI =>
  rintro k W o o' ⟨h2, h3, h4, h5, h6⟩ ho -
  have k1 := chg_putObj W (b0 + 4) o'
  exact ⟨below_chg h2 k1 (fun y hy e => by have e2 : y = b0 + 4 := e; omega) (by omega), by rw [World.putObj_size]; exact h3, h4.chg k1 (fun e => by have e2 : b0 + 1 = b0 + 4 := e; omega), h5.chg k1 (fun e => by have e2 : b0 + 2 = b0 + 4 := e; omega), h6.chg k1 (fun e => by have e2 : g = b0 + 4 := e; omega)⟩
 case h0 =>
  intro o
  have hb3 : Below w2.heap.size w2 ((w2.alloc (.deferred (some []))).alloc o) := (by repeat (first | exact Below.refl _ _ | assumption | refine below_alloc ?_ _ | refine below_chain (by assumption) ?_ | refine below_call2 (by assumption) ?_ (by first | omega | (simp; done) | (simp; omega) | (simp [World.setCell]; omega)) | refine below_drewN ?_ _ | refine Below.drew ?_ | refine Below.alloc ?_ (by first | omega | (simp; done) | (simp; omega) | (simp [World.setCell]; omega)) _ | refine Below.setCell ?_ (by first | omega | (simp; done) | (simp; omega) | (simp [World.setCell]; omega)) _))
  exact ⟨below_chg hb2 (Chg.of_below hb3) (fun _ _ h => h) (by omega), by rw [World.size_alloc, World.size_alloc]; omega, B1.call hb3, B2.call hb3, hG.call hb3⟩
 case assign =>
  intro l k W K hK
  gi_wp2
  exact hK
 case body =>
  intro l k W od ol hk
  omega
 case done =>
  rintro W ⟨h2, h3, h4, h5, h6⟩ hd
  have c0 := h4.cell 0
  simp at c0
  go_wp2
  refine ⟨by simp, .inl ⟨_, _, rfl, run_takeDeferred hd, ?_⟩⟩
  exact ⟨_, results_tmp rfl _ _ _, rfl, by rw [hb0]; exact below_chg h2 (chg_putObj W (b0 + 3) _) (fun y hy e => by have e2 : y = b0 + 3 := e; omega) (by omega)⟩
end Go.Proofs.YteklkljndchjiaaGreat
namespace Go.Proofs.YteklkljndchjiaaGreat
open Go Go.RowKit Go.Deep Go.Maps Go.ChangeMaps
def awR : TRule := ⟨false, 1, 3, 0, 0, 2, 1, 1, 1, 5, 1⟩
def awSt : TSt := sT0 2
theorem aw20_facts : ruleOk awR = true ∧ openE awSt awT 1 0 = 0 := by
 refine ⟨?_, ?_⟩ <;> rfl
theorem ent_self (x : Slt) (w : World) : (binOp .eql 52 x.val x.val).run Tryz.prog w = .ok (.bool true) w := by
 rw [ent_eql]
 have : entB x x = true := by
  unfold entB
  simp [tupB_iff]
 rw [this]
set_option maxRecDepth 100000 in
set_option maxHeartbeats 16000000 in
theorem awake20 (w : World) : Calls Tryz.prog 9 #[] w fun e w' => e = .returned (.bool true) ∧ Below w.heap.size w w' := by
 obtain ⟨hR, e1⟩ := aw20_facts
 have P0 := Blk.new w 47 awT.cells.toArray
 have hb0 : Below w.heap.size w (w.alloc (.cells awT.cells.toArray 47)) := below_alloc (Below.refl _ _) _
 go_enter Tryz.func9, Tryz.ntmps9
 go_upto_region 2 with fail
 change Code.wp _ _ _ _ (w.alloc (.cells awT.cells.toArray 47))
 obtain ⟨p, hp⟩ : ∃ p, w.heap.size = p := ⟨_, rfl⟩
 have hpw : w.heap.size ≤ p := Nat.le_of_eq hp
 rw [hp] at P0
 generalize w.alloc (.cells awT.cells.toArray 47) = w1 at *
 try rw [hp]
 have NW : Calls Tryz.prog 10 #[.agg #[.bool false, .int .i64 1, .int .i64 3, .int .u64 0, .int .u64 0, .int .i64 2, .int .i64 1, .int .i64 1, .int .i64 1, .int .i64 5, .int .i64 1]] w1 _ := tabsn_new (w0 := w) (w := w1) (r := awR) (K := fun b => b = p) hR hb0 (fun b hb => by have := P0.lt; omega)
 replace NW := Lib.hid NW
 go_upto_region 3 with (go_at_call 10; (with_reducible refine NW.out.mono ?_); rintro e w2 ⟨g, rfl, hT0, hb1⟩)
 have hT : TabsN w w2 g awR 2 2 (fun _ => awSt) (fun b => b = p) := hT0
 have P := P0.call hb1
 clear P0 hb1 NW hT0
 have hpl := P.lt
 have hK : ∀ b, (b = p) → b < w2.heap.size := fun b hb => by omega
 have q0 : w2.cell? ⟨p, 0, none⟩ = some (.int .i64 17) := P.cell 0
 have q1 : w2.cell? ⟨p, 1, none⟩ = some (.bool false) := P.cell 1
 have q2 : w2.cell? ⟨p, 2, none⟩ = some (.int .u64 0) := P.cell 2
 have q3 : w2.cell? ⟨p, 3, none⟩ = some (.int .u64 0) := P.cell 3
 have q4 : w2.cell? ⟨p, 4, none⟩ = some (.bool false) := P.cell 4
 have q5 : w2.cell? ⟨p, 5, none⟩ = some (.int .u64 0) := P.cell 5
 have q6 : w2.cell? ⟨p, 6, none⟩ = some (.int .u64 0) := P.cell 6
 have q7 : w2.cell? ⟨p, 7, none⟩ = some (.int .i64 0) := P.cell 7
 have q8 : w2.cell? ⟨p, 8, none⟩ = some (.int .i64 0) := P.cell 8
 obtain ⟨i, hi⟩ : ∃ i, pIx awR awT = i := ⟨_, rfl⟩
 have hrng := hT.rng
 have hil : pIx awR awT < 2 := (pIx_eq awR awT (p := 2) rfl (by omega) (by omega)).2
 obtain ⟨ck, c, hck, hck2, hfo, hfv, hc, -, hE, -, -, -, hgn, -⟩ := open_found (n := 2) hR rfl (hT.ti _ hil) awT 1 0 e1
 have OP : Calls Tryz.prog 15 #[.pointer (some ⟨g, 0, none⟩), .agg #[.int .i64 17, .bool false, .int .u64 0, .int .u64 0, .bool false, .int .u64 0, .int .u64 0, .int .i64 0, .int .i64 0], .int .i64 1, .int .i64 0] w2 _ := tabsn_open hT hK awT 1 0
 try dsimp only at OP
 rw [e1, hck] at OP
 obtain ⟨s1, hs1⟩ : ∃ s, openS awR.cfg 2 awSt awT 1 0 = s := ⟨_, rfl⟩
 obtain ⟨x2, hx2⟩ : ∃ x, openV awR.cfg awSt awT 1 0 = x := ⟨_, rfl⟩
 rw [hs1, hx2] at OP
 rw [hs1] at hfo hfv
 rw [hx2] at hfv
 replace OP := Lib.hid OP
 replace hT := Lib.hid hT
 go_upto_region 4 with (go_at_call 15; (with_reducible refine OP.out.mono ?_); rintro e v2 ⟨rfl, hT2, hc2⟩)
 change Code.wp _ _ _ _ (v2.alloc (.cells x2.entA 52))
 have P2 := P.chg hc2 (fun e => e.2 (by simp))
 have B := Blk.new v2 52 x2.entA
 have hal := below_alloc (Below.refl v2.heap.size v2) (.cells x2.entA 52)
 have P3 := P2.call hal
 have hT3 := hT2.alloc (.cells x2.entA 52)
 obtain ⟨r2, hr2⟩ : ∃ r, v2.heap.size = r := ⟨_, rfl⟩
 rw [hr2] at B hT3
 try rw [hr2]
 generalize v2.alloc (.cells x2.entA 52) = w3 at *
 clear OP hT hT2 hc2 P2 P hK hal hpl hx2 hs1 q0 q1 q2 q3 q4 q5 q6 q7 q8
 rename Blk w3 p _ _ => P
 have hT := hT3
 clear hT3
 have hpl := P.lt
 have hlr2 := B.lt
 have hK : ∀ b, (b = p ∨ b = r2) → b < w3.heap.size := fun b hb => by omega
 have q0 : w3.cell? ⟨p, 0, none⟩ = some (.int .i64 17) := P.cell 0
 have q1 : w3.cell? ⟨p, 1, none⟩ = some (.bool false) := P.cell 1
 have q2 : w3.cell? ⟨p, 2, none⟩ = some (.int .u64 0) := P.cell 2
 have q3 : w3.cell? ⟨p, 3, none⟩ = some (.int .u64 0) := P.cell 3
 have q4 : w3.cell? ⟨p, 4, none⟩ = some (.bool false) := P.cell 4
 have q5 : w3.cell? ⟨p, 5, none⟩ = some (.int .u64 0) := P.cell 5
 have q6 : w3.cell? ⟨p, 6, none⟩ = some (.int .u64 0) := P.cell 6
 have q7 : w3.cell? ⟨p, 7, none⟩ = some (.int .i64 0) := P.cell 7
 have q8 : w3.cell? ⟨p, 8, none⟩ = some (.int .i64 0) := P.cell 8
 have FD : Calls Tryz.prog 17 #[.pointer (some ⟨g, 0, none⟩), .agg #[.int .i64 17, .bool false, .int .u64 0, .int .u64 0, .bool false, .int .u64 0, .int .u64 0, .int .i64 0, .int .i64 0], .int .u64 (ck : Int)] w3 _ := tabsn_find hT hK awT ck hck2
 rw [updS_self, hfo, hfv] at FD
 replace FD := Lib.hid FD
 replace hT := Lib.hid hT
 go_upto_region 5 with (go_at_call 17; (with_reducible refine FD.out.mono ?_); rintro e v3 ⟨rfl, hT2, hc2⟩)
 change Code.wp _ _ _ _ (v3.alloc (.cells x2.entA 52))
 have P2 := P.chg hc2 (fun e => e.2 (by simp))
 have B2 := B.chg hc2 (fun e => e.2 (by simp))
 have C := Blk.new v3 52 x2.entA
 have hal := below_alloc (Below.refl v3.heap.size v3) (.cells x2.entA 52)
 have P3 := P2.call hal
 have B3 := B2.call hal
 have hbT := (hT2.call0 hal).below
 obtain ⟨r3, hr3⟩ : ∃ r, v3.heap.size = r := ⟨_, rfl⟩
 rw [hr3] at C
 try rw [hr3]
 generalize v3.alloc (.cells x2.entA 52) = w4 at *
 clear FD hT hT2 hc2 P2 P hK hal hpl B2 B hlr2 hfo hfv q0 q1 q2 q3 q4 q5 q6 q7 q8
 rename Blk w4 p _ _ => P
 have Z := Blk.new w4 118 tabsZ
 have hb6 := below_alloc (Below.refl w4.heap.size w4) (.cells tabsZ 118)
 have P7 := P.call hb6
 go_upto_region 7 with fail
 change Code.wp _ _ _ _ (w4.alloc (.cells tabsZ 118))
 obtain ⟨z, hz⟩ : ∃ z, w4.heap.size = z := ⟨_, rfl⟩
 rw [hz] at Z
 try rw [hz]
 generalize w4.alloc (.cells tabsZ 118) = w7 at *
 clear P
 rename Blk w7 p _ _ => P
 have q0 : w7.cell? ⟨p, 0, none⟩ = some (.int .i64 17) := P.cell 0
 have q1 : w7.cell? ⟨p, 1, none⟩ = some (.bool false) := P.cell 1
 have q2 : w7.cell? ⟨p, 2, none⟩ = some (.int .u64 0) := P.cell 2
 have q3 : w7.cell? ⟨p, 3, none⟩ = some (.int .u64 0) := P.cell 3
 have q4 : w7.cell? ⟨p, 4, none⟩ = some (.bool false) := P.cell 4
 have q5 : w7.cell? ⟨p, 5, none⟩ = some (.int .u64 0) := P.cell 5
 have q6 : w7.cell? ⟨p, 6, none⟩ = some (.int .u64 0) := P.cell 6
 have q7 : w7.cell? ⟨p, 7, none⟩ = some (.int .i64 0) := P.cell 7
 have q8 : w7.cell? ⟨p, 8, none⟩ = some (.int .i64 0) := P.cell 8
 have ON : Calls Tryz.prog 15 #[.pointer none, .agg #[.int .i64 17, .bool false, .int .u64 0, .int .u64 0, .bool false, .int .u64 0, .int .u64 0, .int .i64 0, .int .i64 0], .int .i64 1, .int .i64 0] w7 _ := tabs_open_nil awT 1 0 w7
 replace ON := Lib.hid ON
 go_upto_region 8 with (go_at_call 15; (with_reducible refine ON.out.mono ?_); rintro e w8 ⟨rfl, hb7⟩)
 change Code.wp _ _ _ _ (w8.alloc (.cells slt0.entA 52))
 have hb8 := below_alloc hb7 (.cells slt0.entA 52)
 have P9 := P.call hb8
 have Z9 := Z.call hb8
 generalize w8.alloc (.cells slt0.entA 52) = w9 at *
 clear ON q0 q1 q2 q3 q4 q5 q6 q7 q8 P Z hb7
 have GP := Lib.hid (tabs_go_plain Z9 1)
 go_upto_region 9 with (go_at_call 21; (with_reducible refine GP.out.mono ?_); rintro e w10 ⟨rfl, hb9⟩)
 have P := P9.call hb9
 have Z10 := Z9.call hb9
 clear GP P9 Z9
 have q0 : w10.cell? ⟨p, 0, none⟩ = some (.int .i64 17) := P.cell 0
 have q1 : w10.cell? ⟨p, 1, none⟩ = some (.bool false) := P.cell 1
 have q2 : w10.cell? ⟨p, 2, none⟩ = some (.int .u64 0) := P.cell 2
 have q3 : w10.cell? ⟨p, 3, none⟩ = some (.int .u64 0) := P.cell 3
 have q4 : w10.cell? ⟨p, 4, none⟩ = some (.bool false) := P.cell 4
 have q5 : w10.cell? ⟨p, 5, none⟩ = some (.int .u64 0) := P.cell 5
 have q6 : w10.cell? ⟨p, 6, none⟩ = some (.int .u64 0) := P.cell 6
 have q7 : w10.cell? ⟨p, 7, none⟩ = some (.int .i64 0) := P.cell 7
 have q8 : w10.cell? ⟨p, 8, none⟩ = some (.int .i64 0) := P.cell 8
 have FN : Calls Tryz.prog 17 #[.pointer none, .agg #[.int .i64 17, .bool false, .int .u64 0, .int .u64 0, .bool false, .int .u64 0, .int .u64 0, .int .i64 0, .int .i64 0], .int .u64 0] w10 _ := tabs_find_no (.pointer none) awT 0 w10 fun W _ => tabs_given_nil W
 replace FN := Lib.hid FN
 go_upto_region 10 with (go_at_call 17; (with_reducible refine FN.out.mono ?_); rintro e w11 ⟨rfl, hb10⟩)
 change Code.wp _ _ _ _ (w11.alloc (.cells slt0.entA 52))
 have hb11 := below_alloc hb10 (.cells slt0.entA 52)
 have P11 := P.call hb11
 have Z11 := Z10.call hb11
 generalize w11.alloc (.cells slt0.entA 52) = w12 at *
 clear FN q0 q1 q2 q3 q4 q5 q6 q7 q8 P Z10 hb10
 rename Blk w12 p _ _ => P
 have q0 : w12.cell? ⟨p, 0, none⟩ = some (.int .i64 17) := P.cell 0
 have q1 : w12.cell? ⟨p, 1, none⟩ = some (.bool false) := P.cell 1
 have q2 : w12.cell? ⟨p, 2, none⟩ = some (.int .u64 0) := P.cell 2
 have q3 : w12.cell? ⟨p, 3, none⟩ = some (.int .u64 0) := P.cell 3
 have q4 : w12.cell? ⟨p, 4, none⟩ = some (.bool false) := P.cell 4
 have q5 : w12.cell? ⟨p, 5, none⟩ = some (.int .u64 0) := P.cell 5
 have q6 : w12.cell? ⟨p, 6, none⟩ = some (.int .u64 0) := P.cell 6
 have q7 : w12.cell? ⟨p, 7, none⟩ = some (.int .i64 0) := P.cell 7
 have q8 : w12.cell? ⟨p, 8, none⟩ = some (.int .i64 0) := P.cell 8
 have TN : Calls Tryz.prog 19 #[.pointer (some ⟨z, 0, none⟩), .agg #[.int .i64 17, .bool false, .int .u64 0, .int .u64 0, .bool false, .int .u64 0, .int .u64 0, .int .i64 0, .int .i64 0], .int .u64 0, .int .i64 0] w12 _ := tabs_touch_no (.pointer (some ⟨z, 0, none⟩)) awT 0 0 w12 fun W hb => tabs_given_plain (Z11.call hb)
 replace TN := Lib.hid TN
 go_upto_region 11 with (go_at_call 19; (with_reducible refine TN.out.mono ?_); rintro e w13 ⟨rfl, hb12⟩)
 change Code.wp _ _ _ _ (w13.alloc (.cells slt0.entA 52))
 have hb13 := below_alloc hb12 (.cells slt0.entA 52)
 have Z13 := Z11.call hb13
 have hb4 : Below w4.heap.size w4 (w13.alloc (.cells slt0.entA 52)) := below_chain hb13 (below_chain hb11 (below_chain hb9 (below_chain hb8 hb6)))
 have HE := Lib.hid fun W (hb : Below w4.heap.size w4 W) => (show EntAt r2 x2 W ∧ EntAt r3 x2 W from ⟨EntAt.of (B3.call hb), EntAt.of (C.call hb)⟩)
 generalize w13.alloc (.cells slt0.entA 52) = w14 at *
 clear TN q0 q1 q2 q3 q4 q5 q6 q7 q8 P Z11 hb12 hb13 hb11 hb9 hb8 hb6 B3 C
 have hbF := below_chain hb4 hbT
 have hEQ := fun W => ent_self x2 W
 obtain ⟨⟨a0, a1, a2, a3, a4, a5, a6, a7, a8, a9, a10, a11, a12, a13⟩, b0, b1, b2, b3, b4, b5, b6, b7, b8, b9, b10, b11, b12, b13⟩ := HE.out w14 hb4
 have FP := Lib.hid fun W (hb : Below w14.heap.size w14 W) => tabs_free_plain (Z13.call hb) 0
 have DP := Lib.hid fun W (hb : Below w14.heap.size w14 W) => tabs_drop_plain (Z13.call hb) 1
 have LN := Lib.hid fun W => tabs_looks_nil W
 have VN := Lib.hid fun W => tabs_live_nil W
 have CN := Lib.hid fun W => tabs_cookie_nil x2 W
 clear Z13
 go_wp2_with (first
  | (go_at_call 28; (with_reducible refine (LN.out _).mono ?_); rintro e v5 ⟨rfl, hc5⟩)
  | (go_at_call 30; (with_reducible refine (FP.out _ hc5).mono ?_); rintro e v6 ⟨rfl, hc6⟩)
  | (go_at_call 27; (with_reducible refine (VN.out _).mono ?_); rintro e v7 ⟨rfl, hc7⟩)
  | (go_at_call 24; (with_reducible refine (DP.out _ (below_chain hc7 (below_chain hc6 hc5))).mono ?_); rintro e v8 ⟨rfl, hc8⟩; clear a0 a1 a2 a3 a4 a5 a6 a7 a8 a9 a10 a11 a12 a13 b0 b1 b2 b3 b4 b5 b6 b7 b8 b9 b10 b11 b12 b13; obtain ⟨⟨a0, a1, a2, a3, a4, a5, a6, a7, a8, a9, a10, a11, a12, a13⟩, -⟩ := HE.out v8 (below_chain hc8 (below_chain hc7 (below_chain hc6 (below_chain hc5 hb4)))))
  | (go_at_call 32; (with_reducible refine (CN.out _).mono ?_); rintro e v9 ⟨rfl, hc9⟩))
 go_ret
 exact ⟨rfl, below_chain hc9 (below_chain hc8 (below_chain hc7 (below_chain hc6 (below_chain hc5 hbF))))⟩
end Go.Proofs.YteklkljndchjiaaGreat
