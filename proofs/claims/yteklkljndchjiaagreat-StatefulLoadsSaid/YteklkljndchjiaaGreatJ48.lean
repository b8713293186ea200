/- tables: the code's tables and the document's in one world. tables: tables that nobody made. -/
import Derived.Test.YteklkljndchjiaaGreatJ46
import Derived.Test.YteklkljndchjiaaGreatJ47
import Derived.Test.YteklkljndchjiaaGreatJ38
import Derived.Test.YteklkljndchjiaaGreatJ43
import Derived.Test.YteklkljndchjiaaGreatJ44
import Derived.Test.YteklkljndchjiaaGreatJ42
import Derived.Test.YteklkljndchjiaaGreatJ32
namespace Go.Proofs.YteklkljndchjiaaGreat
open Go Go.RowKit Go.Deep Go.Maps Go.ChangeMaps
def New2 (w w' : World) (K : Nat → Prop) : Nat → Prop := fun y => K y ∨ w.heap.size ≤ y ∧ y < w'.heap.size
def TwoS (w0 w : World) (g g2 : Nat) (r : TRule) (p n : Nat) (S1 S2 : Nat → TSt) (K1 K2 : Nat → Prop) : Prop :=
 (∀ i, i < p → TI n (S1 i)) ∧ (∀ i, i < p → TI n (S2 i)) ∧ r.cfg.right ∧ Below w0.heap.size w0 w ∧ ∃ X Y, TabsP w g r p n S1 X ∧ DTabsP w g2 r p n S2 Y ∧ (∀ y, X y → w0.heap.size ≤ y ∧ ¬ K1 y ∧ ¬ Y y) ∧ ∀ y, Y y → w0.heap.size ≤ y ∧ ¬ K2 y
section
variable {w0 w w' : World} {g g2 p n : Nat} {r : TRule} {S1 S2 S' : Nat → TSt} {K1 K2 K1' K2' F : Nat → Prop}
theorem TwoS.below (h : TwoS w0 w g g2 r p n S1 S2 K1 K2) : Below w0.heap.size w0 w := h.2.2.2.1
theorem TwoS.rng (h : TwoS w0 w g g2 r p n S1 S2 K1 K2) : r.np = (p : Int) ∧ 1 ≤ p ∧ p ≤ 16 := by
 obtain ⟨_, _, _, _, X, Y, k1, -⟩ := h
 exact k1.rng
theorem TwoS.mono (h : TwoS w0 w g g2 r p n S1 S2 K1 K2) (h1 : ∀ y, K1' y → K1 y) (h2 : ∀ y, K2' y → K2 y) : TwoS w0 w g g2 r p n S1 S2 K1' K2' := by
 obtain ⟨a1, a2, a3, a4, X, Y, k1, k2, k3, k4⟩ := h
 exact ⟨a1, a2, a3, a4, X, Y, k1, k2, fun y hy => ⟨(k3 y hy).1, fun e => (k3 y hy).2.1 (h1 y e), (k3 y hy).2.2⟩, fun y hy => ⟨(k4 y hy).1, fun e => (k4 y hy).2 (h2 y e)⟩⟩
theorem TwoS.chg (h : TwoS w0 w g g2 r p n S1 S2 K1 K2) (k : Chg F w w') (h1 : ∀ y, F y → K1 y ∧ K2 y ∧ w0.heap.size ≤ y) : TwoS w0 w' g g2 r p n S1 S2 K1 K2 := by
 obtain ⟨a1, a2, a3, a4, X, Y, k1, k2, k3, k4⟩ := h
 exact ⟨a1, a2, a3, below_chg a4 k (fun y hy hx => by have := (h1 y hx).2.2; omega) a4.size, X, Y, k1.chg k (fun y hy hf => (k3 y hy).2.1 (h1 y hf).1), k2.chg k (fun y hy hf => (k4 y hy).2 (h1 y hf).2.1), k3, k4⟩
theorem TwoS.call (h : TwoS w0 w g g2 r p n S1 S2 K1 K2) (hb : Below w.heap.size w w') : TwoS w0 w' g g2 r p n S1 S2 (New2 w w' K1) (New2 w w' K2) := by
 obtain ⟨a1, a2, a3, a4, X, Y, k1, k2, k3, k4⟩ := h
 refine ⟨a1, a2, a3, below_chain hb a4, X, Y, k1.call hb, k2.call hb, fun y hy => ⟨(k3 y hy).1, fun e => ?_, (k3 y hy).2.2⟩, fun y hy => ⟨(k4 y hy).1, fun e => ?_⟩⟩
 ·
  rcases e with e | e
  · exact (k3 y hy).2.1 e
  ·
   have := k1.lt hy
   omega
 ·
  rcases e with e | e
  · exact (k4 y hy).2 e
  ·
   have := k2.lt hy
   omega
theorem TwoS.call0 (h : TwoS w0 w g g2 r p n S1 S2 K1 K2) (hb : Below w.heap.size w w') : TwoS w0 w' g g2 r p n S1 S2 K1 K2 := (h.call hb).mono (fun _ hk => .inl hk) fun _ hk => .inl hk
theorem TwoS.push {A A' : Option Addr} (h : TwoS w0 w g g2 r p n S1 S2 K1 K2) (hP : Pushed w w' A A') (hA1 : ∀ b, InB A b → K1 b) (hA2 : ∀ b, InB A b → K2 b) (h0 : ∀ b, InB A b → w0.heap.size ≤ b) : TwoS w0 w' g g2 r p n S1 S2 (fun b => K1 b ∨ InB A' b) (fun b => K2 b ∨ InB A' b) := by
 obtain ⟨a1, a2, a3, a4, X, Y, k1, k2, k3, k4⟩ := h
 refine ⟨a1, a2, a3, below_chg a4 hP.chg (fun b hb hx => by have := h0 b hx; omega) a4.size, X, Y, k1.chg hP.chg (fun b hx hf => (k3 b hx).2.1 (hA1 b hf)), k2.chg hP.chg (fun b hx hf => (k4 b hx).2 (hA2 b hf)), fun b hx => ⟨(k3 b hx).1, fun hk => ?_, (k3 b hx).2.2⟩, fun b hx => ⟨(k4 b hx).1, fun hk => ?_⟩⟩
 ·
  rcases hk with hk | hk
  · exact (k3 b hx).2.1 hk
  ·
   rcases hP.new b hk with h | h
   · exact (k3 b hx).2.1 (hA1 b h)
   ·
    have := k1.lt hx
    omega
 ·
  rcases hk with hk | hk
  · exact (k4 b hx).2 hk
  ·
   rcases hP.new b hk with h | h
   · exact (k4 b hx).2 (hA2 b h)
   ·
    have := k2.lt hx
    omega
def WfE (p n : Nat) (S : Nat → TSt) : Prop := ∀ i, i < p → ∀ k : Nat, k < n → ((S i).E k).used = true → tupWf ((S i).E k).t
theorem WfE.new : WfE p n (fun _ => sT0 n) := fun _ _ _ _ hu => by cases hu
theorem WfE.all {S S' : Nat → TSt} (h : WfE p n S) (hk : ∀ i, i < p → KeepE n (S i) (S' i)) : WfE p n S' := fun i hi k hkn hu => by
 obtain ⟨a1, a2, -⟩ := hk i hi k hkn hu
 rw [a2]
 exact h i hi k hkn a1
theorem WfE.upd {S : Nat → TSt} (h : WfE p n S) {i : Nat} {s' : TSt} (hk : KeepE n (S i) s') : WfE p n (updS S i s') := fun j hj k hkn hu => by
 by_cases e : j = i
 ·
  subst e
  rw [updS_self] at hu ⊢
  obtain ⟨a1, a2, -⟩ := hk k hkn hu
  rw [a2]
  exact h j hj k hkn a1
 ·
  rw [updS_ne _ _ e] at hu ⊢
  exact h j hj k hkn hu
theorem WfE.open {S : Nat → TSt} (h : WfE p n S) (hr : ruleOk r = true) (hn : n = 2 ^ r.sl.toNat) {t : Tup} (hp : pIx r t < p) (hti : TI n (S (pIx r t))) (ht : tupWf t) (bk fl : Int) : WfE p n (updS S (pIx r t) (openS r.cfg n (S (pIx r t)) t bk fl)) := by
 by_cases h0 : openE (S (pIx r t)) t bk fl = 0
 ·
  obtain ⟨k, c, -, -, -, -, hc, -, hE, ht2, -, -, -, -⟩ := open_found hr hn hti t bk fl h0
  intro j hj k2 hkn hu
  by_cases e : j = pIx r t
  ·
   rw [e, updS_self, hE] at hu ⊢
   by_cases e2 : k2 = c
   ·
    rw [e2, updE_self, ht2]
    exact ht
   ·
    rw [updE_ne _ _ e2] at hu ⊢
    exact h _ hp k2 hkn hu
  ·
   rw [updS_ne _ _ e] at hu ⊢
   exact h j hj k2 hkn hu
 ·
  rw [open_no h0, updS_same]
  exact h
theorem WfE.mem {S : Nat → TSt} (h : WfE p n S) (hti : ∀ i, i < p → TI n (S i)) (hn : n ≤ 4096) {x : Slt} (hx : x ∈ entsL n p S) : tupWf x.t ∧ x.sl < 9223372036854775808 ∧ 0 ≤ x.gen ∧ x.gen < 18446744073709551616 := by
 obtain ⟨i, hi, c, hc, hu, rfl⟩ := mem_entsL.1 hx
 refine ⟨h i hi c hc hu, ?_, (hti i hi).gr c hc⟩
 rw [(hti i hi).sl c hc]
 omega
end
attribute [local go_sem] Oper.semAt_some
abbrev tabsZ : Array Value := #[.bool false, .int .i64 0, .int .i64 0, .int .u64 0, .int .u64 0, .int .i64 0, .int .i64 0, .int .i64 0, .int .i64 0, .int .i64 0, .int .i64 0, .slice none 0 0]
theorem tabs_given_nil (w : World) : Calls Tryz.prog 83 #[.pointer none] w fun e w' => e = .returned (.bool false) ∧ w = w' := by
 go_enter Tryz.func83, Tryz.ntmps83
 go_wp2_with fail
 go_ret
 exact ⟨rfl, rfl⟩
set_option maxRecDepth 100000 in
set_option maxHeartbeats 4000000 in
theorem tabs_of_nil (t : Tup) (w : World) : Calls Tryz.prog 79 #[.pointer none, t.val] w fun e w' => e = .returned (.pointer none) ∧ Below w.heap.size w w' := by
 have GV := Lib.hid fun W => tabs_given_nil W
 have hb0 : Below w.heap.size w (w.alloc (.cells t.cells.toArray 47)) := below_alloc (Below.refl _ _) _
 go_enter Tryz.func79, Tryz.ntmps79
 go_wp2_with (go_at_call 83; (with_reducible refine (GV.out _).mono ?_); rintro e w2 ⟨rfl, rfl⟩)
 go_ret
 exact ⟨rfl, (by repeat (first | exact Below.refl _ _ | assumption | refine below_alloc ?_ _ | refine below_chain (by assumption) ?_ | refine below_call2 (by assumption) ?_ (by first | omega | (simp; done) | (simp; omega) | (simp [World.setCell]; omega)) | refine below_drewN ?_ _ | refine Below.drew ?_ | refine Below.alloc ?_ (by first | omega | (simp; done) | (simp; omega) | (simp [World.setCell]; omega)) _ | refine Below.setCell ?_ (by first | omega | (simp; done) | (simp; omega) | (simp [World.setCell]; omega)) _))⟩
set_option maxRecDepth 100000 in
set_option maxHeartbeats 4000000 in
theorem tabs_cookie_nil (x : Slt) (w : World) : Calls Tryz.prog 32 #[.pointer none, x.val] w fun e w' => e = .returned (.int .u64 0) ∧ Below w.heap.size w w' := by
 have GV := Lib.hid fun W => tabs_given_nil W
 have hb0 : Below w.heap.size w (w.alloc (.cells x.entA 52)) := below_alloc (Below.refl _ _) _
 go_enter Tryz.func32, Tryz.ntmps32
 go_wp2_with (go_at_call 83; (with_reducible refine (GV.out _).mono ?_); rintro e w2 ⟨rfl, rfl⟩)
 go_ret
 exact ⟨rfl, (by repeat (first | exact Below.refl _ _ | assumption | refine below_alloc ?_ _ | refine below_chain (by assumption) ?_ | refine below_call2 (by assumption) ?_ (by first | omega | (simp; done) | (simp; omega) | (simp [World.setCell]; omega)) | refine below_drewN ?_ _ | refine Below.drew ?_ | refine Below.alloc ?_ (by first | omega | (simp; done) | (simp; omega) | (simp [World.setCell]; omega)) _ | refine Below.setCell ?_ (by first | omega | (simp; done) | (simp; omega) | (simp [World.setCell]; omega)) _))⟩
set_option maxRecDepth 100000 in
set_option maxHeartbeats 8000000 in
theorem tabs_find_no (v : Value) (t : Tup) (k : Int) (w : World) (GV0 : ∀ W, Below w.heap.size w W → Calls Tryz.prog 83 #[v] W fun e w' => e = .returned (.bool false) ∧ W = w') : Calls Tryz.prog 17 #[v, t.val, .int .u64 k] w fun e w' => e = .returned (.tuple #[slt0.val, .bool false]) ∧ Below w.heap.size w w' := by
 have hb0 : Below w.heap.size w ((w.alloc (.cells t.cells.toArray 47)).alloc (.cells #[.int .i64 0, .bool false, .int .u64 0, .int .u64 0, .bool false, .int .u64 0, .int .u64 0, .int .i64 0, .int .i64 0, .int .i64 0, .int .i64 0, .int .i64 0, .int .u64 0, .int .i64 0] 52)) := below_alloc (below_alloc (Below.refl _ _) _) _
 have B2 : Blk ((w.alloc (.cells t.cells.toArray 47)).alloc (.cells #[.int .i64 0, .bool false, .int .u64 0, .int .u64 0, .bool false, .int .u64 0, .int .u64 0, .int .i64 0, .int .i64 0, .int .i64 0, .int .i64 0, .int .i64 0, .int .u64 0, .int .i64 0] 52)) (w.alloc (.cells t.cells.toArray 47)).heap.size 52 slt0.entA := Blk.new (w.alloc (.cells t.cells.toArray 47)) 52 slt0.entA
 rw [World.size_alloc] at B2
 have GV := Lib.hid (GV0 _ hb0)
 clear GV0
 go_enter Tryz.func17, Tryz.ntmps17
 go_upto_region 1 with fail
 change Code.wp _ _ _ _ ((w.alloc (.cells t.cells.toArray 47)).alloc (.cells #[.int .i64 0, .bool false, .int .u64 0, .int .u64 0, .bool false, .int .u64 0, .int .u64 0, .int .i64 0, .int .i64 0, .int .i64 0, .int .i64 0, .int .i64 0, .int .u64 0, .int .i64 0] 52))
 generalize (w.alloc (.cells t.cells.toArray 47)).alloc (.cells #[.int .i64 0, .bool false, .int .u64 0, .int .u64 0, .bool false, .int .u64 0, .int .u64 0, .int .i64 0, .int .i64 0, .int .i64 0, .int .i64 0, .int .i64 0, .int .u64 0, .int .i64 0] 52) = w1 at *
 obtain ⟨rt, hrt⟩ : ∃ rt, w.heap.size = rt := ⟨_, rfl⟩
 rw [hrt] at B2
 try rw [hrt]
 go_wp2_with (first
  | (go_at_call 83; (with_reducible refine GV.out.mono ?_); rintro e w2 ⟨rfl, rfl⟩)
  | (with_reducible refine wpList_store_eblk (r := rt + 1) (z := slt0) rfl rfl (.tmp 6) (.tmp 14) rfl B2 slt0 rfl rfl ?_))
 change bodyPost _ _ _ _ _ (setEnt w1 (rt + 1) slt0)
 obtain ⟨e1, e2⟩ := setEnt_blk B2 slt0
 generalize setEnt w1 (rt + 1) slt0 = w6 at *
 refine bodyPost_ret (v := .tuple #[slt0.val, .bool false]) (find_results _ _ _ _ _ rfl rfl (EntAt.of e1)) rfl ?_
 exact ⟨rfl, below_chg hb0 e2 (fun y hy e => by have e3 : y = rt + 1 := e; omega) (by have := hb0.size; omega)⟩
set_option maxRecDepth 100000 in
set_option maxHeartbeats 8000000 in
theorem tabs_open_nil (t : Tup) (bk fl : Int) (w : World) : Calls Tryz.prog 15 #[.pointer none, t.val, .int .i64 bk, .int .i64 fl] w fun e w' => e = .returned (.tuple #[slt0.val, .int .u64 0, .int .i64 1]) ∧ Below w.heap.size w w' := by
 have B1 := (Blk.new w 47 t.cells.toArray).alloc (.cells #[.int .i64 0, .bool false, .int .u64 0, .int .u64 0, .bool false, .int .u64 0, .int .u64 0, .int .i64 0, .int .i64 0, .int .i64 0, .int .i64 0, .int .i64 0, .int .u64 0, .int .i64 0] 52)
 have B2 : Blk ((w.alloc (.cells t.cells.toArray 47)).alloc (.cells #[.int .i64 0, .bool false, .int .u64 0, .int .u64 0, .bool false, .int .u64 0, .int .u64 0, .int .i64 0, .int .i64 0, .int .i64 0, .int .i64 0, .int .i64 0, .int .u64 0, .int .i64 0] 52)) (w.alloc (.cells t.cells.toArray 47)).heap.size 52 slt0.entA := Blk.new (w.alloc (.cells t.cells.toArray 47)) 52 slt0.entA
 have hb0 : Below w.heap.size w ((w.alloc (.cells t.cells.toArray 47)).alloc (.cells #[.int .i64 0, .bool false, .int .u64 0, .int .u64 0, .bool false, .int .u64 0, .int .u64 0, .int .i64 0, .int .i64 0, .int .i64 0, .int .i64 0, .int .i64 0, .int .u64 0, .int .i64 0] 52)) := below_alloc (below_alloc (Below.refl _ _) _) _
 rw [World.size_alloc] at B2
 go_enter Tryz.func15, Tryz.ntmps15
 go_upto_region 1 with fail
 change Code.wp _ _ _ _ ((w.alloc (.cells t.cells.toArray 47)).alloc (.cells #[.int .i64 0, .bool false, .int .u64 0, .int .u64 0, .bool false, .int .u64 0, .int .u64 0, .int .i64 0, .int .i64 0, .int .i64 0, .int .i64 0, .int .i64 0, .int .u64 0, .int .i64 0] 52))
 have hw1 : ((w.alloc (.cells t.cells.toArray 47)).alloc (.cells #[.int .i64 0, .bool false, .int .u64 0, .int .u64 0, .bool false, .int .u64 0, .int .u64 0, .int .i64 0, .int .i64 0, .int .i64 0, .int .i64 0, .int .i64 0, .int .u64 0, .int .i64 0] 52)).heap.size = w.heap.size + 2 := by rw [World.size_alloc, World.size_alloc]
 generalize (w.alloc (.cells t.cells.toArray 47)).alloc (.cells #[.int .i64 0, .bool false, .int .u64 0, .int .u64 0, .bool false, .int .u64 0, .int .u64 0, .int .i64 0, .int .i64 0, .int .i64 0, .int .i64 0, .int .i64 0, .int .u64 0, .int .i64 0] 52) = w1 at *
 obtain ⟨rt, hrt⟩ : ∃ rt, w.heap.size = rt := ⟨_, rfl⟩
 rw [hrt] at B1 B2 hw1
 try rw [hrt]
 have OF := Lib.hid fun (W : World) => tabs_of_nil t W
 have OP := Lib.hid fun (W : World) => tab_open_nil t bk fl W
 have hS1 : TupAt rt t w1.drew := TupAt.of B1
 have FIN := Lib.hid fun (q : Nat) (wX : World) (hb : Below w1.heap.size w1 wX) (hq : w1.heap.size ≤ q) (hB : Blk wX q 52 slt0.entA) => show Blk (setEnt wX q slt0) (rt + 1) 52 slt0.entA ∧ Below w.heap.size w (setEnt wX q slt0) from by
  obtain ⟨-, e2⟩ := setEnt_blk hB slt0
  exact ⟨(B2.call hb).chg e2 fun e => by have e3 : rt + 1 = q := e; omega, below_chg (below_chain hb hb0) e2 (fun y hy e => by have e3 : y = q := e; omega) (by have := hb0.size; have := hb.size; omega)⟩
 clear B1 B2 hb0
 go_cut [11, 12] from 13 to 30 (fun x11 x12 wx => ∃ q, x11 = .pointer (some ⟨q, 0, none⟩) ∧ x12 = .int .i64 1 ∧ Blk wx (rt + 1) 52 slt0.entA ∧ Below w.heap.size w wx)
 case first =>
  as_aux_lemma =>
  refine wp_region_held_drew (S := TupAt rt t) (by kernel_rfl) hS1 (fun hHeld => ?_)
  have hd : Below w1.heap.size w1 w1.drew := (Below.refl _ _).drew
  have hzd : w1.drew.heap.size = w1.heap.size := rfl
  generalize w1.drew = wd at *
  replace hzd := Lib.hid hzd
  refine' tk 0 rfl rfl ?_ ?_; rotate_left; · ((intro w hSw; (try dsimp only at hSw); go_simp) <;> with_reducible rfl); try go_frame
  refine' tk 1 rfl rfl ?_ ?_; rotate_left; · ((intro w hSw; (try dsimp only at hSw); go_simp) <;> with_reducible rfl); try go_frame
  refine' tk 3 rfl rfl ?_ ?_; rotate_left; · ((intro w hSw; (try dsimp only at hSw); go_simp) <;> with_reducible rfl); try go_frame
  refine' tk 4 rfl rfl ?_ ?_; rotate_left; · ((intro w hSw; (try dsimp only at hSw); go_simp) <;> with_reducible rfl); try go_frame
  refine' tk 5 rfl rfl ?_ ?_; rotate_left; · ((intro w hSw; (try dsimp only at hSw); go_simp) <;> with_reducible rfl); try go_frame
  refine wpAnyH_ready (rs := [2, 10]) (by kernel_rfl) (by simp) ?_; refine consH rfl (fun K hK => ?_) (consH rfl (fun K hK => ?_) AllReadyH.nil)
  ·
   go_simp
   (go_at_call 79; (with_reducible refine (OF.out _).mono ?_))
   rintro e w2 ⟨rfl, hb2⟩
   refine hK.out _ _ (hHeld.call hb2) (fun hHeld => ?_)
   clear hK K
   try go_frame
   have hsz2 := hb2.size
   refine wpAnyH_ready (rs := [6, 10]) (by kernel_rfl) (by simp) ?_; refine consH rfl (fun K hK => ?_) (consH rfl (fun K hK => ?_) AllReadyH.nil)
   ·
    go_simp
    (go_at_call 80; (with_reducible refine (OP.out _).mono ?_))
    rintro e w3 ⟨rfl, hb3⟩
    refine hK.out _ _ (hHeld.call hb3) (fun hHeld => ?_)
    clear hK K
    try go_frame
    refine' tk 7 rfl rfl ?_ ?_; rotate_left; · ((intro w hSw; (try dsimp only at hSw); go_simp) <;> with_reducible rfl); try go_frame
    refine' tk 8 rfl rfl ?_ ?_; rotate_left; · ((intro w hSw; (try dsimp only at hSw); go_simp) <;> with_reducible rfl); try go_frame
    refine' tk 9 rfl rfl ?_ ?_; rotate_left; · ((intro w hSw; (try dsimp only at hSw); go_simp) <;> with_reducible rfl); try go_frame
    refine wpAnyH_ready (rs := [10]) (by kernel_rfl) (by simp) ?_; refine consH rfl (fun K hK => ?_) AllReadyH.nil
    go_simp
    refine hK.out _ _ (hHeld.call (below_alloc (Below.refl _ _) _)) (fun hHeld => ?_)
    clear hK K
    try go_frame
    have hsz := hb3.size
    refine wpAnyH_ready (rs := [11]) (by kernel_rfl) (by simp) ?_; refine consH rfl (fun K hK => ?_) AllReadyH.nil
    rw [if_pos (by rfl)]
    have BQ : Blk (w3.alloc (.cells #[.int .i64 0, .bool false, .int .u64 0, .int .u64 0, .bool false, .int .u64 0, .int .u64 0, .int .i64 0, .int .i64 0, .int .i64 0, .int .i64 0, .int .i64 0, .int .u64 0, .int .i64 0] 52)) w3.heap.size 52 slt0.entA := Blk.new w3 52 slt0.entA
    with_reducible refine wp_store_eblk (r := w3.heap.size) (z := slt0) (.tmp 11) (.tmp 21) rfl BQ slt0 rfl rfl ?_
    refine hK.out _ _ (hHeld.chg (setEnt_blk BQ slt0).2 (fun e => by have e2 : rt = w3.heap.size := e; have h9 := hzd.out; omega)) (fun hHeld => ?_)
    clear hK K
    try go_frame
    refine' tk 12 rfl rfl ?_ ?_; rotate_left; · ((intro w hSw; (try dsimp only at hSw); go_simp) <;> with_reducible rfl); try go_frame
    refine wpAnyH_done (by kernel_rfl) ?_ _
    go_wp2_with fail
    go_meet
    exact ⟨w3.heap.size, rfl, rfl, FIN.out w3.heap.size _ (below_chain (below_alloc (Below.refl w3.heap.size w3) (.cells #[.int .i64 0, .bool false, .int .u64 0, .int .u64 0, .bool false, .int .u64 0, .int .u64 0, .int .i64 0, .int .i64 0, .int .i64 0, .int .i64 0, .int .i64 0, .int .u64 0, .int .i64 0] 52)) (below_chain hb3 (below_chain hb2 hd))) (by have h9 := hzd.out; omega) BQ⟩
   ·
    go_simp
    refine hK.out _ _ (hHeld.call (below_alloc (Below.refl _ _) _)) (fun hHeld => ?_)
    clear hK K
    try go_frame
    refine wpAnyH_ready (rs := [6]) (by kernel_rfl) (by simp) ?_; refine consH rfl (fun K hK => ?_) AllReadyH.nil
    go_simp
    (go_at_call 80; (with_reducible refine (OP.out _).mono ?_))
    rintro e w3 ⟨rfl, hb3⟩
    refine hK.out _ _ (hHeld.call hb3) (fun hHeld => ?_)
    clear hK K
    try go_frame
    refine' tk 7 rfl rfl ?_ ?_; rotate_left; · ((intro w hSw; (try dsimp only at hSw); go_simp) <;> with_reducible rfl); try go_frame
    refine' tk 8 rfl rfl ?_ ?_; rotate_left; · ((intro w hSw; (try dsimp only at hSw); go_simp) <;> with_reducible rfl); try go_frame
    refine' tk 9 rfl rfl ?_ ?_; rotate_left; · ((intro w hSw; (try dsimp only at hSw); go_simp) <;> with_reducible rfl); try go_frame
    have hsa : (w2.alloc (.cells #[.int .i64 0, .bool false, .int .u64 0, .int .u64 0, .bool false, .int .u64 0, .int .u64 0, .int .i64 0, .int .i64 0, .int .i64 0, .int .i64 0, .int .i64 0, .int .u64 0, .int .i64 0] 52)).heap.size = w2.heap.size + 1 := World.size_alloc _ _
    refine wpAnyH_ready (rs := [11]) (by kernel_rfl) (by simp) ?_; refine consH rfl (fun K hK => ?_) AllReadyH.nil
    rw [if_pos (by rfl)]
    have BQ : Blk w3 w2.heap.size 52 slt0.entA := (Blk.new w2 52 slt0.entA).call hb3
    with_reducible refine wp_store_eblk (r := w2.heap.size) (z := slt0) (.tmp 11) (.tmp 21) rfl BQ slt0 rfl rfl ?_
    refine hK.out _ _ (hHeld.chg (setEnt_blk BQ slt0).2 (fun e => by have e2 : rt = w2.heap.size := e; have h9 := hzd.out; omega)) (fun hHeld => ?_)
    clear hK K
    try go_frame
    refine' tk 12 rfl rfl ?_ ?_; rotate_left; · ((intro w hSw; (try dsimp only at hSw); go_simp) <;> with_reducible rfl); try go_frame
    refine wpAnyH_done (by kernel_rfl) ?_ _
    go_wp2_with fail
    go_meet
    exact ⟨w2.heap.size, rfl, rfl, FIN.out w2.heap.size _ (below_chain hb3 (below_chain (below_alloc (Below.refl w2.heap.size w2) (.cells #[.int .i64 0, .bool false, .int .u64 0, .int .u64 0, .bool false, .int .u64 0, .int .u64 0, .int .i64 0, .int .i64 0, .int .i64 0, .int .i64 0, .int .i64 0, .int .u64 0, .int .i64 0] 52)) (below_chain hb2 hd))) (by have h9 := hzd.out; omega) BQ⟩
  ·
   go_simp
   refine hK.out _ _ (hHeld.call (below_alloc (Below.refl _ _) _)) (fun hHeld => ?_)
   clear hK K
   try go_frame
   refine wpAnyH_ready (rs := [2]) (by kernel_rfl) (by simp) ?_; refine consH rfl (fun K hK => ?_) AllReadyH.nil
   go_simp
   (go_at_call 79; (with_reducible refine (OF.out _).mono ?_))
   rintro e w2 ⟨rfl, hb2⟩
   refine hK.out _ _ (hHeld.call hb2) (fun hHeld => ?_)
   clear hK K
   try go_frame
   refine wpAnyH_ready (rs := [6]) (by kernel_rfl) (by simp) ?_; refine consH rfl (fun K hK => ?_) AllReadyH.nil
   go_simp
   (go_at_call 80; (with_reducible refine (OP.out _).mono ?_))
   rintro e w3 ⟨rfl, hb3⟩
   refine hK.out _ _ (hHeld.call hb3) (fun hHeld => ?_)
   clear hK K
   try go_frame
   refine' tk 7 rfl rfl ?_ ?_; rotate_left; · ((intro w hSw; (try dsimp only at hSw); go_simp) <;> with_reducible rfl); try go_frame
   refine' tk 8 rfl rfl ?_ ?_; rotate_left; · ((intro w hSw; (try dsimp only at hSw); go_simp) <;> with_reducible rfl); try go_frame
   refine' tk 9 rfl rfl ?_ ?_; rotate_left; · ((intro w hSw; (try dsimp only at hSw); go_simp) <;> with_reducible rfl); try go_frame
   refine wpAnyH_ready (rs := [11]) (by kernel_rfl) (by simp) ?_; refine consH rfl (fun K hK => ?_) AllReadyH.nil
   rw [if_pos (by rfl)]
   have BQ : Blk w3 wd.heap.size 52 slt0.entA := ((Blk.new wd 52 slt0.entA).call hb2).call hb3
   with_reducible refine wp_store_eblk (r := wd.heap.size) (z := slt0) (.tmp 11) (.tmp 21) rfl BQ slt0 rfl rfl ?_
   refine hK.out _ _ (hHeld.chg (setEnt_blk BQ slt0).2 (fun e => by have e2 : rt = wd.heap.size := e; have h9 := hzd.out; omega)) (fun hHeld => ?_)
   clear hK K
   try go_frame
   refine' tk 12 rfl rfl ?_ ?_; rotate_left; · ((intro w hSw; (try dsimp only at hSw); go_simp) <;> with_reducible rfl); try go_frame
   refine wpAnyH_done (by kernel_rfl) ?_ _
   go_wp2_with fail
   go_meet
   exact ⟨wd.heap.size, rfl, rfl, FIN.out wd.heap.size _ (below_chain hb3 (below_chain hb2 (below_chain (below_alloc (Below.refl wd.heap.size wd) (.cells #[.int .i64 0, .bool false, .int .u64 0, .int .u64 0, .bool false, .int .u64 0, .int .u64 0, .int .i64 0, .int .i64 0, .int .i64 0, .int .i64 0, .int .i64 0, .int .u64 0, .int .i64 0] 52)) hd))) (by have h9 := hzd.out; omega) BQ⟩
 case rest =>
  obtain ⟨q, rfl, rfl, BR, hbw⟩ := hcut
  clear FIN OP OF hS1
  go_wp2_with (with_reducible refine wpList_store_eblk (r := rt + 1) (z := slt0) rfl rfl (.tmp 8) (.tmp 25) rfl BR slt0 rfl rfl ?_)
  change bodyPost _ _ _ _ _ (setEnt wc (rt + 1) slt0)
  obtain ⟨e1, e2⟩ := setEnt_blk BR slt0
  generalize setEnt wc (rt + 1) slt0 = w6 at *
  refine bodyPost_ret (v := .tuple #[slt0.val, .int .u64 0, .int .i64 1]) (open_results _ _ _ _ _ _ rfl rfl rfl (EntAt.of e1)) rfl ?_
  exact ⟨rfl, below_chg hbw e2 (fun y hy e => by have e3 : y = rt + 1 := e; omega) (by have := hbw.size; omega)⟩
end Go.Proofs.YteklkljndchjiaaGreat
