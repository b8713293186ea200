/- tables: Looks over all parts. -/
import Derived.Test.YteklkljndchjiaaGreatJ14
import Derived.Test.YteklkljndchjiaaGreatJ9
import Derived.Maps.AppendAt
namespace Go.Proofs.YteklkljndchjiaaGreat
open Go Go.RowKit
attribute [local go_sem] Oper.semAt_some
theorem chg_putObj (w : World) (r : Nat) (o : Obj) : Chg (· = r) w (w.putObj r o) :=
 ⟨rfl, rfl, rfl, by rw [World.putObj_size]; exact Nat.le_refl _, fun b _ hb => World.putObj_heap_other hb⟩
theorem keepD_chg {F : Nat → Prop} {D : Nat} {W W' : World} (k : Chg F W W') (h0 : D + 1 < W.heap.size) (h1 : ¬ F D) (h2 : ¬ F (D + 1)) : KeepD D W W' := ⟨k.block (by omega) h1, k.block h0 h2⟩
theorem tabs_each (v : Option Addr) (w : World) : Calls Tryz.prog 90 #[.pointer v] w fun e w' => e = .returned (.func (.func 170) #[] #[.pointer (some ⟨w.heap.size, 0, none⟩)]) ∧ w' = w.alloc (.cells #[.pointer v] 34) := by
 go_enter Tryz.func90, Tryz.ntmps90
 go_wp2_with fail
 go_ret
 exact ⟨rfl, rfl⟩
def EachC (Bx g pb p q : Nat) (gs : Nat → Nat) (W : World) : Prop := W.cell? ⟨Bx, 0, none⟩ = some (.pointer (some ⟨g, 0, none⟩)) ∧ W.cell? ⟨g, 11, none⟩ = some (.slice (some ⟨pb, 0, none⟩) p q) ∧ ∀ i, i < p → W.cell? ⟨pb, i, none⟩ = some (.pointer (some ⟨gs i, 0, none⟩))
def sumF (f : Nat → Int) : Nat → Int
 | 0 => 0
 | k + 1 => IntKind.i64.wrap (sumF f k + f k)
set_option maxRecDepth 100000 in
set_option maxHeartbeats 4000000 in
theorem tabs_looks_gen (g pb p q : Nat) (gs : Nat → Nat) (hp : p ≤ 16) (lk : Nat → Int) (w : World) (T : World → Prop) (hT : T w) (hCT : ∀ W, T W → W.cell? ⟨g, 11, none⟩ = some (.slice (some ⟨pb, 0, none⟩) p q) ∧ ∀ i, i < p → W.cell? ⟨pb, i, none⟩ = some (.pointer (some ⟨gs i, 0, none⟩)))
  (hch : ∀ (F : Nat → Prop) W W', T W → Chg F W W' → (∀ y, F y → w.heap.size ≤ y) → T W') (LK : ∀ i W, i < p → T W → Calls Tryz.prog 96 #[.pointer (some ⟨gs i, 0, none⟩)] W fun e w' => e = .returned (.int .i64 (lk i)) ∧ W = w') :
  Calls Tryz.prog 28 #[.pointer (some ⟨g, 0, none⟩)] w fun e w' => e = .returned (.int .i64 (sumF lk p)) ∧ Below w.heap.size w w' := by
 refine (callsIn_wide (n := 9)).1 (callsIn_of_wp_marks Tryz.func28 rfl trivial ?_ rfl)
 simp only [Tryz.ntmps28, List.size_toArray, List.length_cons, List.length_nil, Nat.reduceAdd, Nat.reduceSub, Array.replicate_succ, Array.replicate_zero, List.push_toArray, List.append_toArray, List.nil_append, List.cons_append]
 refine (wpIn_wide (n := 9)).2 ?_
 go_wp2_with (go_at_call 90; (with_reducible refine (tabs_each _ _).mono ?_); rintro e w2 ⟨rfl, hw2⟩)
 have B1 := (Blk.new w 3 #[.int .i64 0]).alloc (.cells #[.pointer (some ⟨g, 0, none⟩)] 34)
 have B2 := Blk.new (w.alloc (.cells #[.int .i64 0] 3)) 34 #[.pointer (some ⟨g, 0, none⟩)]
 have hb2 : Below w.heap.size w ((w.alloc (.cells #[.int .i64 0] 3)).alloc (.cells #[.pointer (some ⟨g, 0, none⟩)] 34)) := (by repeat (first | exact Below.refl _ _ | assumption | refine below_alloc ?_ _ | refine below_chain (by assumption) ?_ | refine below_call2 (by assumption) ?_ (by first | omega | (simp; done) | (simp; omega) | (simp [World.setCell]; omega)) | refine below_drewN ?_ _ | refine Below.drew ?_ | refine Below.alloc ?_ (by first | omega | (simp; done) | (simp; omega) | (simp [World.setCell]; omega)) _ | refine Below.setCell ?_ (by first | omega | (simp; done) | (simp; omega) | (simp [World.setCell]; omega)) _))
 have hz2 : w2.heap.size = w.heap.size + 2 := by rw [hw2, World.size_alloc, World.size_alloc]
 rw [World.size_alloc] at B2
 rw [← hw2] at B1 B2 hb2 ⊢
 clear hw2
 have hT2 := hch _ w w2 hT (Chg.of_below hb2) (fun y h => (h : False).elim)
 obtain ⟨bo, hbo⟩ : ∃ bo, w.heap.size = bo := ⟨_, rfl⟩
 rw [hbo] at B1 B2 hz2 hb2 hch ⊢
 refine wp_rangeN p (D := bo + 2) (by rw [hz2]) (gf := 170) (lb := #[.pointer (some ⟨bo + 1, 0, none⟩)]) rfl (enters_of Tryz.func170 (by kernel_rfl) rfl) (fun i => .pointer (some ⟨gs i, 0, none⟩)) rfl (EachC (bo + 1) g pb p q gs)
  (each_iter (bo + 1) g pb p q gs hp (EachC (bo + 1) g pb p q gs) fun W h => h)
  (fun k W => T W ∧ Below bo w W ∧ bo + 3 < W.heap.size ∧ Blk W bo 3 #[.int .i64 (sumF lk k)] ∧ Blk W (bo + 1) 34 #[.pointer (some ⟨g, 0, none⟩)])
  (fun _ _ => False) ?hC ?hI (fun _ _ _ _ h => h.elim) ?h0 ?a1 ?assign ?body ?done (fun _ _ h => h.elim)
 case hC =>
  rintro k W ⟨h1, -, -, -, h5⟩
  exact ⟨h5.cell 0, hCT W h1⟩
 case hI =>
  rintro k W o o' ⟨h1, h2, h3, h4, h5⟩ ho -
  have k1 := chg_putObj W (bo + 3) o'
  exact ⟨hch _ _ _ h1 k1 (fun y e => by have e2 : y = bo + 3 := e; omega), below_chg h2 k1 (fun y hy e => by have e2 : y = bo + 3 := e; omega) (by omega), by rw [World.putObj_size]; exact h3, h4.chg k1 (fun e => by have e2 : bo = bo + 3 := e; omega), h5.chg k1 (fun e => by have e2 : bo + 1 = bo + 3 := e; omega)⟩
 case h0 =>
  intro o
  have hb3 : Below w2.heap.size w2 ((w2.alloc (.deferred (some []))).alloc o) := (by repeat (first | exact Below.refl _ _ | assumption | refine below_alloc ?_ _ | refine below_chain (by assumption) ?_ | refine below_call2 (by assumption) ?_ (by first | omega | (simp; done) | (simp; omega) | (simp [World.setCell]; omega)) | refine below_drewN ?_ _ | refine Below.drew ?_ | refine Below.alloc ?_ (by first | omega | (simp; done) | (simp; omega) | (simp [World.setCell]; omega)) _ | refine Below.setCell ?_ (by first | omega | (simp; done) | (simp; omega) | (simp [World.setCell]; omega)) _))
  exact ⟨hch _ _ _ hT2 (Chg.of_below hb3) (fun y h => (h : False).elim), below_chg hb2 (Chg.of_below hb3) (fun _ _ h => h) (by omega), by rw [World.size_alloc, World.size_alloc]; omega, B1.call hb3, B2.call hb3⟩
 case assign =>
  intro l k W K hK
  gi_wp2
  exact hK
 case body =>
  rintro l k W od ol hk ⟨h1, h2, h3, h4, h5⟩ hod hdc hol hlc
  have hmx : Tryz.prog.follows .mixedOrders = true := by kernel_rfl
  have L1 := LK k _ hk (hch _ W W.drew h1 (Chg.of_below (Below.refl _ W).drew) (fun y h => (h : False).elim))
  have c0 := h4.cell 0
  have f0 := h4.frozen 0
  simp at c0
  gi_wp2
  gi_region_with_o (refine ⟨trivial, ?_⟩; gi_at_call 96; refine (CallsIn.inRound l (callsIn_wide.2 L1)).mono ?_; rintro e w' ⟨rfl, rfl⟩)
  all_goals gi_wp2
  all_goals
   have k1 : Chg (· = bo) W (W.setCell ⟨bo, 0, none⟩ (.int .i64 (IntKind.i64.wrap (sumF lk k + lk k)))).drew := (Chg.setCell (F := (· = bo)) (p := ⟨bo, 0, none⟩) (Chg.refl _ _) (fun _ => rfl) _).drew
   refine ⟨keepD_chg k1 (by omega) (fun e => by have e2 : bo + 2 = bo := e; omega) (fun e => by have e2 : bo + 2 + 1 = bo := e; omega), hch _ _ _ h1 k1 (fun y e => by have e2 : y = bo := e; omega), below_chg h2 k1 (fun y hy e => by have e2 : y = bo := e; omega) (by omega), by have := k1.size; omega, ?_, h5.chg k1 (fun e => by have e2 : bo + 1 = bo := e; omega)⟩
   have hs := h4.set_ 0 (.int .i64 (IntKind.i64.wrap (sumF lk k + lk k)))
   simp at hs
   exact hs
 case done =>
  rintro W ⟨h1, h2, h3, h4, h5⟩ hd
  have c0 := h4.cell 0
  simp at c0
  go_wp2
  refine ⟨by simp, .inl ⟨_, _, rfl, run_takeDeferred hd, ?_⟩⟩
  exact ⟨_, results_tmp rfl _ _ _, rfl, by rw [hbo]; exact below_chg h2 (chg_putObj W (bo + 2) _) (fun y hy e => by have e2 : y = bo + 2 := e; omega) (by omega)⟩
end Go.Proofs.YteklkljndchjiaaGreat
