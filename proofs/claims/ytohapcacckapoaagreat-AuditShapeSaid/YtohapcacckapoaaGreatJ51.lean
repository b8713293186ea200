/- stateful: a keeper's Touch and Find. stateful: Open, Find and Cookie of keepers that nobody made. stateful: the chapter's example, called. stateful: what stands between two steps of a law; free slots. plane: a new plane, read. audit: each check of a plane that was asked nothing. audit: the slots of a plane that was asked nothing, against a shape. audit: names; a plane that nobody .. -/
import Derived.Test.YtohapcacckapoaaGreatJ49
import Derived.Test.YtohapcacckapoaaGreatJ41
import Derived.Test.YtohapcacckapoaaGreatJ50
import Derived.Test.YtohapcacckapoaaGreatJ45
import Derived.Test.YtohapcacckapoaaGreatJ47
import Derived.Deep.LoopGhost
import Derived.Test.YtohapcacckapoaaGreatJ14
import Derived.Test.YtohapcacckapoaaGreatJ20
namespace Go.Proofs.YtohapcacckapoaaGreat
open Go Go.RowKit Go.Deep Go.Maps Go.ChangeMaps
section
variable {w w' : World} {X F : Nat → Prop} {k : KPtr} {r : KRule} {s : KSt}
end
section
variable {w : World} {v : Value}
end
def awK : KRule := ⟨false, 1, 0, true, 1, 0, 0, 0, 1, 1, 1, 1, 1, 1⟩
def awT17 : Tup := ⟨17, false, 0, 0, false, 0, 0, 0, 0⟩
structure LS (w1 wx : World) (k : KPtr) (r : KRule) (j : Nat) (A : Option Addr) (c : Nat) (cs : List Int) (s : KSt) (X : Nat → Prop) : Prop where
 ki : KI r s
 ob : keepOb k r s wx X
 ge : ∀ y, X y → w1.heap.size ≤ y
 own : OwnU wx w1.heap.size A c cs
 off : ∀ y, X y → ¬ InB A y
 bl : Below w1.heap.size w1 wx
 rg : ∀ x ∈ cs, 0 ≤ x ∧ x < 18446744073709551616
 cl : cs.length ≤ j
section
variable {w1 wx w' : World} {k : KPtr} {r : KRule} {j c c' : Nat} {A A' : Option Addr} {cs : List Int} {s s' : KSt} {X : Nat → Prop}
theorem LS.to (h : LS w1 wx k r j A c cs s X) (hI : KI r s') (t : (keepOb k r s').To wx w' X) : ∃ X', LS w1 w' k r j A c cs s' X' := by
 have hA := fun y (hy : InB A y) => h.own.block hy
 have hz := h.bl.size
 have hOw := OwnA.to h.own t h.off
 obtain ⟨X', m1, m2, m3⟩ := t
 refine ⟨X', hI, m1, fun y hy => ?_, hOw, fun y hy e => ?_, below_chg h.bl m2 (fun y hy hx => by have := h.ge y hx; omega) hz, h.rg, h.cl⟩
 ·
  rcases m3 y hy with q | q
  · exact h.ge y q
  · omega
 ·
  rcases m3 y hy with q | q
  · exact h.off y q e
  ·
   have := (hA y e).2
   omega
theorem LS.call (h : LS w1 wx k r j A c cs s X) (hb : Below wx.heap.size wx w') : LS w1 w' k r j A c cs s X :=
 ⟨h.ki, keepOb_ok.call h.ob hb, h.ge, h.own.call hb, h.off, below_call2 hb h.bl h.bl.size, h.rg, h.cl⟩
theorem LS.mono (h : LS w1 wx k r j A c cs s X) : LS w1 wx k r (j + 1) A c cs s X := ⟨h.ki, h.ob, h.ge, h.own, h.off, h.bl, h.rg, by have := h.cl; omega⟩
theorem LS.push (h : LS w1 wx k r j A c cs s X) {v : Int} (hv : 0 ≤ v ∧ v < 18446744073709551616) (hO : OwnU w' w1.heap.size A' c' (cs ++ [v])) (hP : Pushed wx w' A A') : LS w1 w' k r (j + 1) A' c' (cs ++ [v]) s X := by
 have hA := fun y (hy : InB A y) => h.own.block hy
 have hz := h.bl.size
 refine ⟨h.ki, keepOb_ok.chg h.ob hP.chg h.off, h.ge, hO, fun y hy e => ?_, hP.below h.bl hz (fun b hb => (hA b hb).1), fun x hx => ?_, by rw [List.length_append]; have := h.cl; simp; omega⟩
 ·
  rcases hP.new y e with q | q
  · exact h.off y hy q
  ·
   have := keepOb_ok.lt h.ob hy
   omega
 ·
  rcases List.mem_append.1 hx with q | q
  · exact h.rg x q
  ·
   rw [List.mem_singleton.1 q]
   exact hv
def frS (f : Nat → Int) : Nat → Int
 | 0 => 0
 | j + 1 => frS f j + f j
def fr2 (r : KRule) (s : KSt) (q : Nat) : Int := frS (fun i => freeI r.p (s.S true) (i : Int) + freeI r.p (s.S false) (i : Int)) q
end
theorem bkN_zero {l : List Slt} (h : ∀ b, bkN b l = 0) : l = [] := by
 cases l with
 | nil => rfl
 | cons x l =>
  have := h x.bk
  unfold bkN at this
  rw [List.countP_eq_zero] at this
  exact absurd (this x (List.mem_cons_self ..)) (by simp)
theorem sT0_live (n : Nat) : liveL n (sT0 n) = [] := by
 refine bkN_zero fun b => ?_
 unfold bkN
 rw [List.countP_eq_zero]
 intro x hx
 exact absurd hx (by
  have : liveL n (sT0 n) = [] := by
   unfold liveL entsOf sT0
   rw [List.map_eq_nil_iff]
   induction n with
   | zero => rfl
   | succ n ih => simp_all [allL, slt0]
  rw [this]
  simp)
theorem kGo_new {r : KRule} (hr : kruleOk r = true) {now : Int} {SS : Bool → Nat → List Int} (hG : KGoS r (kNew r) now SS) : KI r (kGo r (kNew r) now SS) ∧ r.live (kGo r (kNew r) now SS) = [] ∧ ∀ b i, i < r.p → ((kGo r (kNew r) now SS).S b i).L.length = r.n b := by
 have hI0 := KI.new hr
 have hI := hI0.go hG
 have hL : ∀ b i, i < r.p → liveL (r.n b) ((kGo r (kNew r) now SS).S b i) = [] := fun b i hi => by
  refine bkN_zero fun x => ?_
  have h1 := bkN_go ((hI0.lk b).ti i hi) (hG b i hi) x
  have h2 : liveL (r.n b) ((kNew r).S b i) = [] := sT0_live _
  rw [h2] at h1
  have h3 : bkN x ([] : List Slt) = 0 := rfl
  rw [h3] at h1
  have h4 : bkN x (liveL (r.n b) (goTab (r.n b) ((kNew r).S b i) now (SS b i))) = 0 := by omega
  exact h4
 have hB : ∀ b, ∀ q, q ≤ r.p → entsL (r.n b) q ((kGo r (kNew r) now SS).S b) = [] := fun b q => by
  induction q with
  | zero => exact fun _ => rfl
  | succ q ih =>
   intro hq
   have e1 := ih (by omega)
   have e2 := hL b q (by omega)
   unfold entsL at e1 ⊢
   rw [catF, e1, e2]
   rfl
 refine ⟨hI, ?_, fun b i hi => ?_⟩
 ·
  unfold KRule.live KRule.liveB
  rw [hB true _ (Nat.le_refl _), hB false _ (Nat.le_refl _)]
  rfl
 ·
  have h1 := ents_free (n := r.n b) (p := 1) (S := fun _ => (kGo r (kNew r) now SS).S b i) (fun _ _ => (hI.lk b).ti i hi) 1 (Nat.le_refl _)
  have h2 : entsL (r.n b) 1 (fun _ => (kGo r (kNew r) now SS).S b i) = [] := by
   unfold entsL
   rw [catF, catF, hL b i hi]
   rfl
  rw [h2] at h1
  simpa using h1
structure PlnAt (w : World) (q : Nat) (c : PCfg) (k : KPtr) (s : KSt) (X : Nat → Prop) : Prop where
 blk : ∃ rg gc gl, Blk w q 73 (plA c (ptr0 rg) (ptr0 gc) (ptr0 k.g) (ptr0 gl) 0) ∧ Blk w rg 108 (regA c)
 ob : keepOb k c.r s w X
 ki : KI c.r s
 he : heOk c.ri c.fa = true
 nl : c.r.live s = []
 fr : ∀ b i, i < c.r.p → (s.S b i).L.length = c.r.n b
section
variable {w w' : World} {q : Nat} {c : PCfg} {k : KPtr} {s : KSt} {X : Nat → Prop}
theorem PlnAt.call (h : PlnAt w q c k s X) (hb : Below w.heap.size w w') : PlnAt w' q c k s X := by
 obtain ⟨rg, gc, gl, h1, h2⟩ := h.blk
 exact ⟨⟨rg, gc, gl, h1.call hb, h2.call hb⟩, keepOb_ok.call h.ob hb, h.ki, h.he, h.nl, h.fr⟩
theorem plane_made (c : PCfg) (hc : pcfgOk c = true) (w : World) : Calls Tryz.prog 7 #[c.val] w fun e w' => ∃ q k s X, e = .returned (.tuple #[ptr0 q, .int .i64 0]) ∧ PlnAt w' q c k s X ∧ Below w.heap.size w w' := by
 refine (plane_new c hc w).mono ?_
 rintro e w' ⟨q, rg, gc, gl, bl, k, X, SS, rfl, h1, h2, h3, h4, -, h6⟩
 unfold pcfgOk at hc
 simp only [Bool.and_eq_true] at hc
 obtain ⟨⟨⟨⟨⟨-, -⟩, -⟩, hr⟩, hp⟩, hh⟩ := hc
 obtain ⟨k1, k2, k3⟩ := kGo_new hr h3
 exact ⟨q, k, _, X, rfl, ⟨⟨rg, gc, gl, h1, h2⟩, h4, k1, hh, k2, k3⟩, h6⟩
theorem plane_given (h : PlnAt w q c k s X) : Calls Tryz.prog 70 #[ptr0 q] w fun e w' => e = .returned (.bool true) ∧ w = w' := by
 obtain ⟨rg, gc, gl, h1, -⟩ := h.blk
 have c25 : w.cell? ⟨q, 25, none⟩ = some (ptr0 rg) := h1.cell 25
 clear h h1
 go_enter Tryz.func70, Tryz.ntmps70
 go_wp2_with fail
 go_ret
 exact ⟨rfl, rfl⟩
theorem plane_kept (h : PlnAt w q c k s X) : Calls Tryz.prog 52 #[ptr0 q] w fun e w' => e = .returned (ptr0 k.g) ∧ w = w' := by
 have GV := Lib.hid (plane_given h)
 obtain ⟨rg, gc, gl, h1, -⟩ := h.blk
 have c27 : w.cell? ⟨q, 27, none⟩ = some (ptr0 k.g) := h1.cell 27
 clear h h1
 go_enter Tryz.func52, Tryz.ntmps52
 go_wp2_with (go_at_call 70; with_reducible refine GV.out.mono ?_; rintro e w1 ⟨rfl, rfl⟩)
 go_ret
 exact ⟨rfl, rfl⟩
theorem plane_live (h : PlnAt w q c k s X) : Calls Tryz.prog 22 #[ptr0 q] w fun e w' => ∃ (A : Option Addr) (a : Nat), e = .returned (.slice A 0 a) ∧ Below w.heap.size w w' := by
 have KP := Lib.hid (plane_kept h)
 have LV := keep_live h.ki h.ob
 rw [h.nl] at LV
 replace LV := Lib.hid LV
 clear h
 go_enter Tryz.func22, Tryz.ntmps22
 go_wp2_with (first
  | (go_at_call 52; with_reducible refine KP.out.mono ?_; rintro e w1 ⟨rfl, rfl⟩)
  | (go_at_call 53; with_reducible refine LV.out.mono ?_; rintro e w1 ⟨A, a, rfl, -, hb⟩))
 go_ret
 exact ⟨A, a, rfl, hb⟩
theorem plane_backends (h : PlnAt w q c k s X) : Calls Tryz.prog 54 #[ptr0 q] w fun e w' => ∃ rg, e = .returned (ptr0 rg) ∧ Blk w rg 108 (regA c) ∧ w = w' := by
 have GV := Lib.hid (plane_given h)
 obtain ⟨rg, gc, gl, h1, h2⟩ := h.blk
 have c25 : w.cell? ⟨q, 25, none⟩ = some (ptr0 rg) := h1.cell 25
 replace h2 := Lib.hid h2
 clear h h1
 go_enter Tryz.func54, Tryz.ntmps54
 go_wp2_with (go_at_call 70; with_reducible refine GV.out.mono ?_; rintro e w1 ⟨rfl, rfl⟩)
 go_ret
 exact ⟨rg, rfl, h2.out, rfl⟩
theorem reg_given0 (hh : heOk c.ri c.fa = true) (h : Blk w q 108 (regA c)) : Calls Tryz.prog 85 #[ptr0 q] w fun e w' => e = .returned (.bool true) ∧ Below w.heap.size w w' := by
 have HR := health_right c.ri c.fa w
 rw [hh] at HR
 have c0 : w.cell? ⟨q, 0, none⟩ = some (.int .i64 c.ri) := h.cell 0
 have c1 : w.cell? ⟨q, 1, none⟩ = some (.int .i64 c.fa) := h.cell 1
 replace HR := Lib.hid HR
 clear hh h
 go_enter Tryz.func85, Tryz.ntmps85
 go_wp2_with (go_at_call 47; with_reducible refine HR.out.mono ?_; rintro e w1 ⟨rfl, hb⟩)
 go_ret
 exact ⟨rfl, hb⟩
theorem reg_list0 (hh : heOk c.ri c.fa = true) (h : Blk w q 108 (regA c)) : Calls Tryz.prog 55 #[ptr0 q] w fun e w' => e = .returned (.slice none 0 0) ∧ Below w.heap.size w w' := by
 have GV := Lib.hid (reg_given0 hh h)
 have RC := Lib.hid fun W (hb : Below w.heap.size w W) => show W.cell? ⟨q, 2, none⟩ = some (.slice none 0 0) from (h.call hb).cell 2
 clear h
 go_enter Tryz.func55, Tryz.ntmps55
 go_wp2_with (go_at_call 85; with_reducible refine GV.out.mono ?_; rintro e w1 ⟨rfl, hb⟩; have c2 := RC.out _ hb)
 refine wp_loop_rounds 1 ?_
 rw [rounds_succ]
 go_wp2_with fail
 go_ret
 exact ⟨rfl, hb⟩
theorem plane_list (h : PlnAt w q c k s X) : Calls Tryz.prog 23 #[ptr0 q] w fun e w' => e = .returned (.slice none 0 0) ∧ Below w.heap.size w w' := by
 have BE := Lib.hid (plane_backends h)
 have RL := Lib.hid fun (rg : Nat) (hB : Blk w rg 108 (regA c)) => reg_list0 h.he hB
 clear h
 go_enter Tryz.func23, Tryz.ntmps23
 go_wp2_with (first
  | (go_at_call 54; with_reducible refine BE.out.mono ?_; rintro e w1 ⟨rg, rfl, hB, rfl⟩)
  | (go_at_call 55; with_reducible refine (RL.out _ hB).mono ?_; rintro e w1 ⟨rfl, hb⟩))
 go_ret
 exact ⟨rfl, hb⟩
theorem plane_free (h : PlnAt w q c k s X) (pr i : Int) : Calls Tryz.prog 66 #[ptr0 q, .int .i64 pr, .int .i64 i] w fun e w' => e = .returned (.int .i64 (freeI c.r.p (s.S (pr == 6)) i)) ∧ Below w.heap.size w w' := by
 have KP := Lib.hid (plane_kept h)
 have FR := Lib.hid (keep_free h.ob pr i)
 clear h
 generalize freeI c.r.p (s.S (pr == 6)) i = fv at *
 go_enter Tryz.func66, Tryz.ntmps66
 go_wp2_with (first
  | (go_at_call 52; with_reducible refine KP.out.mono ?_; rintro e w1 ⟨rfl, rfl⟩)
  | (go_at_call 95; with_reducible refine FR.out.mono ?_; rintro e w1 ⟨rfl, hb⟩))
 go_ret
 exact ⟨rfl, hb⟩
theorem plane_board (h : PlnAt w q c k s X) : Calls Tryz.prog 38 #[ptr0 q] w fun e w' => e = .returned (.pointer (some ⟨q, 30, none⟩)) ∧ w = w' := by
 have GV := Lib.hid (plane_given h)
 clear h
 go_enter Tryz.func38, Tryz.ntmps38
 go_wp2_with (go_at_call 70; with_reducible refine GV.out.mono ?_; rintro e w1 ⟨rfl, rfl⟩)
 go_ret
 exact ⟨rfl, rfl⟩
theorem PlnAt.zero (h : PlnAt w q c k s X) (j : Nat) (hj : j < 23) : w.cell? ⟨q, 30 + j, none⟩ = some (.int .i64 0) := by
 obtain ⟨rg, gc, gl, h1, -⟩ := h.blk
 rw [h1.cell (30 + j)]
 match j, hj with
 | 0, _ | 1, _ | 2, _ | 3, _ | 4, _ | 5, _ | 6, _ | 7, _ | 8, _ | 9, _ | 10, _ | 11, _ | 12, _ | 13, _ | 14, _ | 15, _ | 16, _ | 17, _ | 18, _ | 19, _ | 20, _ | 21, _ | 22, _ => rfl
 | n + 23, h => exact absurd h (by omega)
end
theorem indexE_nil (A : Option Addr) (a : Nat) (f : Value) (w : World) : Calls Tryz.prog 87 #[.slice A 0 a, f] w fun e w' => e = .returned (.int .i64 (-1)) ∧ Below w.heap.size w w' := by
 go_enter Tryz.func87, Tryz.ntmps87
 go_wp2_with fail
 refine wp_loop_rounds 1 ?_
 rw [rounds_succ]
 go_wp2_with fail
 go_ret
 exact ⟨rfl, Below.refl _ _⟩
theorem containsE_nil (A : Option Addr) (a : Nat) (f : Value) (w : World) : Calls Tryz.prog 56 #[.slice A 0 a, f] w fun e w' => e = .returned (.bool false) ∧ Below w.heap.size w w' := by
 have IX := Lib.hid (indexE_nil A a f w)
 go_enter Tryz.func56, Tryz.ntmps56
 go_wp2_with (go_at_call 87; with_reducible refine IX.out.mono ?_; rintro e w1 ⟨rfl, hb⟩)
 go_ret
 exact ⟨rfl, hb⟩
theorem indexB_nil (A : Option Addr) (a : Nat) (f : Value) (w : World) : Calls Tryz.prog 92 #[.slice A 0 a, f] w fun e w' => e = .returned (.int .i64 (-1)) ∧ Below w.heap.size w w' := by
 go_enter Tryz.func92, Tryz.ntmps92
 go_wp2_with fail
 refine wp_loop_rounds 1 ?_
 rw [rounds_succ]
 go_wp2_with fail
 go_ret
 exact ⟨rfl, Below.refl _ _⟩
theorem containsB_nil (A : Option Addr) (a : Nat) (f : Value) (w : World) : Calls Tryz.prog 63 #[.slice A 0 a, f] w fun e w' => e = .returned (.bool false) ∧ Below w.heap.size w w' := by
 have IX := Lib.hid (indexB_nil A a f w)
 go_enter Tryz.func63, Tryz.ntmps63
 go_wp2_with (go_at_call 92; with_reducible refine IX.out.mono ?_; rintro e w1 ⟨rfl, hb⟩)
 go_ret
 exact ⟨rfl, hb⟩
theorem entries_nil (A : Option Addr) (a : Nat) (w : World) : Calls Tryz.prog 25 #[.slice A 0 a] w fun e w' => e = .returned (.bool false) ∧ Below w.heap.size w w' := by
 have CN := Lib.hid fun f => containsE_nil A a f w
 go_enter Tryz.func25, Tryz.ntmps25
 go_wp2_with (go_at_call 56; with_reducible refine (CN.out _).mono ?_; rintro e w1 ⟨rfl, hb⟩)
 go_ret
 exact ⟨rfl, hb⟩
theorem strangers_nil (A : Option Addr) (a : Nat) (w : World) : Calls Tryz.prog 27 #[.slice A 0 a, .slice none 0 0] w fun e w' => e = .returned (.bool false) ∧ Below w.heap.size w w' := by
 have CN := Lib.hid fun f W => containsE_nil A a f W
 go_enter Tryz.func27, Tryz.ntmps27
 go_wp2_with (go_at_call 56; with_reducible refine (CN.out _ _).mono ?_; rintro e w1 ⟨rfl, hb⟩)
 go_ret
 exact ⟨rfl, (by repeat (first | exact Below.refl _ _ | assumption | refine below_alloc ?_ _ | refine below_chain (by assumption) ?_ | refine below_call2 (by assumption) ?_ (by first | omega | (simp; done) | (simp; omega) | (simp [World.setCell]; omega)) | refine below_drewN ?_ _ | refine Below.drew ?_ | refine Below.alloc ?_ (by first | omega | (simp; done) | (simp; omega) | (simp [World.setCell]; omega)) _ | refine Below.setCell ?_ (by first | omega | (simp; done) | (simp; omega) | (simp [World.setCell]; omega)) _))⟩
theorem twice_nil (v : Value) (A : Option Addr) (a : Nat) (w : World) : Calls Tryz.prog 29 #[v, .slice A 0 a] w fun e w' => e = .returned (.bool false) ∧ Below w.heap.size w w' := by
 have hmm := @run_makeMap Tryz.prog
 go_enter Tryz.func29, Tryz.ntmps29
 go_wp2_with fail
 refine wp_loop_rounds 1 ?_
 rw [rounds_succ]
 go_wp2_with fail
 go_ret
 exact ⟨rfl, (by repeat (first | exact Below.refl _ _ | assumption | refine below_alloc ?_ _ | refine below_chain (by assumption) ?_ | refine below_call2 (by assumption) ?_ (by first | omega | (simp; done) | (simp; omega) | (simp [World.setCell]; omega)) | refine below_drewN ?_ _ | refine Below.drew ?_ | refine Below.alloc ?_ (by first | omega | (simp; done) | (simp; omega) | (simp [World.setCell]; omega)) _ | refine Below.setCell ?_ (by first | omega | (simp; done) | (simp; omega) | (simp [World.setCell]; omega)) _))⟩
theorem order_nil (w : World) : Calls Tryz.prog 35 #[.slice none 0 0] w fun e w' => e = .returned (.bool false) ∧ Below w.heap.size w w' := by
 go_enter Tryz.func35, Tryz.ntmps35
 go_wp2_with fail
 refine wp_loop_rounds 1 ?_
 rw [rounds_succ]
 go_wp2_with fail
 go_ret
 exact ⟨rfl, Below.refl _ _⟩
section
variable {w w' : World} {q : Nat} {c : PCfg} {k : KPtr} {s : KSt} {X : Nat → Prop}
theorem count_nil (h : PlnAt w q c k s X) : Calls Tryz.prog 17 #[ptr0 q] w fun e w' => ∃ v, e = .returned (.map v) ∧ Below w.heap.size w w' := by
 have LV := Lib.hid fun W (hb : Below w.heap.size w W) => plane_live (h.call hb)
 have hmm := @run_makeMap Tryz.prog
 clear h
 go_enter Tryz.func17, Tryz.ntmps17
 go_wp2_with (go_at_call 22; with_reducible refine (LV.out _ (by first | exact Below.refl _ _ | exact below_alloc (Below.refl _ _) _)).mono ?_; rintro e w1 ⟨A, a, rfl, hb⟩)
 refine wp_loop_rounds 1 ?_
 rw [rounds_succ]
 go_wp2_with fail
 go_ret
 exact ⟨_, rfl, (by repeat (first | exact Below.refl _ _ | assumption | refine below_alloc ?_ _ | refine below_chain (by assumption) ?_ | refine below_call2 (by assumption) ?_ (by first | omega | (simp; done) | (simp; omega) | (simp [World.setCell]; omega)) | refine below_drewN ?_ _ | refine Below.drew ?_ | refine Below.alloc ?_ (by first | omega | (simp; done) | (simp; omega) | (simp [World.setCell]; omega)) _ | refine Below.setCell ?_ (by first | omega | (simp; done) | (simp; omega) | (simp [World.setCell]; omega)) _))⟩
theorem loads_nil (h : PlnAt w q c k s X) : Calls Tryz.prog 31 #[ptr0 q, .slice none 0 0] w fun e w' => e = .returned (.bool false) ∧ Below w.heap.size w w' := by
 have CO := Lib.hid fun W (hb : Below w.heap.size w W) => count_nil (h.call hb)
 have CN := Lib.hid fun f W => containsB_nil none 0 f W
 clear h
 go_enter Tryz.func31, Tryz.ntmps31
 go_wp2_with (first
  | (go_at_call 17; with_reducible refine (CO.out _ (below_alloc (Below.refl _ _) _)).mono ?_; rintro e w1 ⟨v, rfl, hb⟩)
  | (go_at_call 63; with_reducible refine (CN.out _ _).mono ?_; rintro e w2 ⟨rfl, hb2⟩))
 go_ret
 exact ⟨rfl, (by repeat (first | exact Below.refl _ _ | assumption | refine below_alloc ?_ _ | refine below_chain (by assumption) ?_ | refine below_call2 (by assumption) ?_ (by first | omega | (simp; done) | (simp; omega) | (simp [World.setCell]; omega)) | refine below_drewN ?_ _ | refine Below.drew ?_ | refine Below.alloc ?_ (by first | omega | (simp; done) | (simp; omega) | (simp [World.setCell]; omega)) _ | refine Below.setCell ?_ (by first | omega | (simp; done) | (simp; omega) | (simp [World.setCell]; omega)) _))⟩
theorem known_any (e : Int) (w : World) : Calls Tryz.prog 96 #[.int .i64 e] w fun r w' => r = .returned (.bool (decide (0 < e) && decide (e ≤ 16))) ∧ w = w' := by
 obtain ⟨z1, h1⟩ : ∃ z, decide (0 < e) = z := ⟨_, rfl⟩
 obtain ⟨z2, h2⟩ : ∃ z, decide (e ≤ 16) = z := ⟨_, rfl⟩
 rw [h1, h2]
 go_enter Tryz.func96, Tryz.ntmps96
 cases z1 <;> cases z2 <;> (go_wp2_with fail; go_ret; exact ⟨rfl, rfl⟩)
theorem boardkind_nil (h : PlnAt w q c k s X) (j : Nat) (hj : j < 4) : Calls Tryz.prog 67 #[.pointer (some ⟨q, 30, none⟩), .int .i64 (j : Int)] w fun e w' => e = .returned (.int .i64 0) ∧ w = w' := by
 have hz := Lib.hid fun j hj => h.zero j hj
 clear h
 match j, hj with
 | 0, _ =>
  have c0 : w.cell? ⟨q, 30, none⟩ = some (.int .i64 0) := hz.out 0 (by omega)
  go_enter Tryz.func67, Tryz.ntmps67
  go_wp2_with fail
  go_ret
  exact ⟨rfl, rfl⟩
 | 1, _ =>
  have c0 : w.cell? ⟨q, 31, none⟩ = some (.int .i64 0) := hz.out 1 (by omega)
  go_enter Tryz.func67, Tryz.ntmps67
  go_wp2_with fail
  go_ret
  exact ⟨rfl, rfl⟩
 | 2, _ =>
  have c0 : w.cell? ⟨q, 32, none⟩ = some (.int .i64 0) := hz.out 2 (by omega)
  go_enter Tryz.func67, Tryz.ntmps67
  go_wp2_with fail
  go_ret
  exact ⟨rfl, rfl⟩
 | 3, _ =>
  have c0 : w.cell? ⟨q, 33, none⟩ = some (.int .i64 0) := hz.out 3 (by omega)
  go_enter Tryz.func67, Tryz.ntmps67
  go_wp2_with fail
  go_ret
  exact ⟨rfl, rfl⟩
 | n + 4, h => exact absurd h (by omega)
theorem boardreason_nil (h : PlnAt w q c k s X) (j : Nat) (hj : j < 17) : Calls Tryz.prog 68 #[.pointer (some ⟨q, 30, none⟩), .int .i64 (j : Int)] w fun e w' => e = .returned (.int .i64 0) ∧ w = w' := by
 have hz := Lib.hid fun j hj => h.zero j hj
 have KN := Lib.hid fun e => known_any e w
 clear h
 match j, hj with
 | 0, _ =>
  have c0 : w.cell? ⟨q, 34, none⟩ = some (.int .i64 0) := hz.out 4 (by omega)
  go_enter Tryz.func68, Tryz.ntmps68
  go_wp2_with (go_at_call 96; with_reducible refine (KN.out _).mono ?_; rintro e w1 ⟨rfl, rfl⟩)
  go_ret
  exact ⟨rfl, rfl⟩
 | 1, _ =>
  have c0 : w.cell? ⟨q, 35, none⟩ = some (.int .i64 0) := hz.out 5 (by omega)
  go_enter Tryz.func68, Tryz.ntmps68
  go_wp2_with (go_at_call 96; with_reducible refine (KN.out _).mono ?_; rintro e w1 ⟨rfl, rfl⟩)
  go_ret
  exact ⟨rfl, rfl⟩
 | 2, _ =>
  have c0 : w.cell? ⟨q, 36, none⟩ = some (.int .i64 0) := hz.out 6 (by omega)
  go_enter Tryz.func68, Tryz.ntmps68
  go_wp2_with (go_at_call 96; with_reducible refine (KN.out _).mono ?_; rintro e w1 ⟨rfl, rfl⟩)
  go_ret
  exact ⟨rfl, rfl⟩
 | 3, _ =>
  have c0 : w.cell? ⟨q, 37, none⟩ = some (.int .i64 0) := hz.out 7 (by omega)
  go_enter Tryz.func68, Tryz.ntmps68
  go_wp2_with (go_at_call 96; with_reducible refine (KN.out _).mono ?_; rintro e w1 ⟨rfl, rfl⟩)
  go_ret
  exact ⟨rfl, rfl⟩
 | 4, _ =>
  have c0 : w.cell? ⟨q, 38, none⟩ = some (.int .i64 0) := hz.out 8 (by omega)
  go_enter Tryz.func68, Tryz.ntmps68
  go_wp2_with (go_at_call 96; with_reducible refine (KN.out _).mono ?_; rintro e w1 ⟨rfl, rfl⟩)
  go_ret
  exact ⟨rfl, rfl⟩
 | 5, _ =>
  have c0 : w.cell? ⟨q, 39, none⟩ = some (.int .i64 0) := hz.out 9 (by omega)
  go_enter Tryz.func68, Tryz.ntmps68
  go_wp2_with (go_at_call 96; with_reducible refine (KN.out _).mono ?_; rintro e w1 ⟨rfl, rfl⟩)
  go_ret
  exact ⟨rfl, rfl⟩
 | 6, _ =>
  have c0 : w.cell? ⟨q, 40, none⟩ = some (.int .i64 0) := hz.out 10 (by omega)
  go_enter Tryz.func68, Tryz.ntmps68
  go_wp2_with (go_at_call 96; with_reducible refine (KN.out _).mono ?_; rintro e w1 ⟨rfl, rfl⟩)
  go_ret
  exact ⟨rfl, rfl⟩
 | 7, _ =>
  have c0 : w.cell? ⟨q, 41, none⟩ = some (.int .i64 0) := hz.out 11 (by omega)
  go_enter Tryz.func68, Tryz.ntmps68
  go_wp2_with (go_at_call 96; with_reducible refine (KN.out _).mono ?_; rintro e w1 ⟨rfl, rfl⟩)
  go_ret
  exact ⟨rfl, rfl⟩
 | 8, _ =>
  have c0 : w.cell? ⟨q, 42, none⟩ = some (.int .i64 0) := hz.out 12 (by omega)
  go_enter Tryz.func68, Tryz.ntmps68
  go_wp2_with (go_at_call 96; with_reducible refine (KN.out _).mono ?_; rintro e w1 ⟨rfl, rfl⟩)
  go_ret
  exact ⟨rfl, rfl⟩
 | 9, _ =>
  have c0 : w.cell? ⟨q, 43, none⟩ = some (.int .i64 0) := hz.out 13 (by omega)
  go_enter Tryz.func68, Tryz.ntmps68
  go_wp2_with (go_at_call 96; with_reducible refine (KN.out _).mono ?_; rintro e w1 ⟨rfl, rfl⟩)
  go_ret
  exact ⟨rfl, rfl⟩
 | 10, _ =>
  have c0 : w.cell? ⟨q, 44, none⟩ = some (.int .i64 0) := hz.out 14 (by omega)
  go_enter Tryz.func68, Tryz.ntmps68
  go_wp2_with (go_at_call 96; with_reducible refine (KN.out _).mono ?_; rintro e w1 ⟨rfl, rfl⟩)
  go_ret
  exact ⟨rfl, rfl⟩
 | 11, _ =>
  have c0 : w.cell? ⟨q, 45, none⟩ = some (.int .i64 0) := hz.out 15 (by omega)
  go_enter Tryz.func68, Tryz.ntmps68
  go_wp2_with (go_at_call 96; with_reducible refine (KN.out _).mono ?_; rintro e w1 ⟨rfl, rfl⟩)
  go_ret
  exact ⟨rfl, rfl⟩
 | 12, _ =>
  have c0 : w.cell? ⟨q, 46, none⟩ = some (.int .i64 0) := hz.out 16 (by omega)
  go_enter Tryz.func68, Tryz.ntmps68
  go_wp2_with (go_at_call 96; with_reducible refine (KN.out _).mono ?_; rintro e w1 ⟨rfl, rfl⟩)
  go_ret
  exact ⟨rfl, rfl⟩
 | 13, _ =>
  have c0 : w.cell? ⟨q, 47, none⟩ = some (.int .i64 0) := hz.out 17 (by omega)
  go_enter Tryz.func68, Tryz.ntmps68
  go_wp2_with (go_at_call 96; with_reducible refine (KN.out _).mono ?_; rintro e w1 ⟨rfl, rfl⟩)
  go_ret
  exact ⟨rfl, rfl⟩
 | 14, _ =>
  have c0 : w.cell? ⟨q, 48, none⟩ = some (.int .i64 0) := hz.out 18 (by omega)
  go_enter Tryz.func68, Tryz.ntmps68
  go_wp2_with (go_at_call 96; with_reducible refine (KN.out _).mono ?_; rintro e w1 ⟨rfl, rfl⟩)
  go_ret
  exact ⟨rfl, rfl⟩
 | 15, _ =>
  have c0 : w.cell? ⟨q, 49, none⟩ = some (.int .i64 0) := hz.out 19 (by omega)
  go_enter Tryz.func68, Tryz.ntmps68
  go_wp2_with (go_at_call 96; with_reducible refine (KN.out _).mono ?_; rintro e w1 ⟨rfl, rfl⟩)
  go_ret
  exact ⟨rfl, rfl⟩
 | 16, _ =>
  have c0 : w.cell? ⟨q, 50, none⟩ = some (.int .i64 0) := hz.out 20 (by omega)
  go_enter Tryz.func68, Tryz.ntmps68
  go_wp2_with (go_at_call 96; with_reducible refine (KN.out _).mono ?_; rintro e w1 ⟨rfl, rfl⟩)
  go_ret
  exact ⟨rfl, rfl⟩
 | n + 17, h => exact absurd h (by omega)
set_option maxRecDepth 100000 in
set_option maxHeartbeats 4000000 in
theorem boardreasons_nil (h : PlnAt w q c k s X) : Calls Tryz.prog 69 #[.pointer (some ⟨q, 30, none⟩)] w fun e w' => e = .returned (.slice none 0 0) ∧ w = w' := by
 have RS := Lib.hid fun (j : Nat) (hj : j < 17) => boardreason_nil h j hj
 have KN := Lib.hid fun e => known_any e w
 clear h
 go_enter Tryz.func69, Tryz.ntmps69
 go_wp2_with fail
 go_loopg [3, 4] 17 (fun gk ov iv wr => ∃ j : Nat, j + gk = 18 ∧ 1 ≤ j ∧ iv = .int .i64 (j : Int) ∧ ov = .slice none 0 0 ∧ w = wr)
 case atStart => exact ⟨1, by omega, by omega, rfl, rfl, rfl⟩
 case round =>
  obtain ⟨j, hj, hj1, rfl, rfl, rfl⟩ := hrel
  have e1 : decide (0 < (j : Int)) = true := by simp; omega
  by_cases hl : j ≤ 16
  ·
   have e2 : decide ((j : Int) ≤ 16) = true := by simp; omega
   have R1 := Lib.hid (RS.out j (by omega))
   have hw1 : wrap64 ((j : Int) + 1) = (j : Int) + 1 := by unfold wrap64; omega
   have K1 := KN.out (j : Int)
   rw [e1, e2] at K1
   replace K1 := Lib.hid K1
   clear e1 e2 KN RS
   go_wp2_with (first
    | (go_at_call 96; with_reducible refine K1.out.mono ?_; rintro e w1 ⟨rfl, rfl⟩)
    | (go_at_call 68; with_reducible refine R1.out.mono ?_; rintro e w1 ⟨rfl, rfl⟩))
   go_roundg (gk - 1)
   case measure => omega
   case rel => exact ⟨j + 1, by omega, by omega, by go_num, rfl, rfl⟩
  ·
   have e2 : decide ((j : Int) ≤ 16) = false := by simp; omega
   have K1 := KN.out (j : Int)
   rw [e1, e2] at K1
   replace K1 := Lib.hid K1
   clear e1 e2 KN RS
   go_wp2_with (go_at_call 96; with_reducible refine K1.out.mono ?_; rintro e w1 ⟨rfl, rfl⟩)
   go_ret
   exact ⟨rfl, rfl⟩
theorem board_nil (h : PlnAt w q c k s X) : Calls Tryz.prog 37 #[.pointer (some ⟨q, 30, none⟩)] w fun e w' => e = .returned (.bool false) ∧ Below w.heap.size w w' := by
 have KD := Lib.hid fun (j : Nat) (hj : j < 4) => boardkind_nil h j hj
 have K1 := Lib.hid (KD.out 1 (by omega))
 have K2 := Lib.hid (KD.out 2 (by omega))
 have K3 := Lib.hid (KD.out 3 (by omega))
 have R0 := Lib.hid (boardreason_nil h 0 (by omega))
 have RS := Lib.hid (boardreasons_nil h)
 clear h KD
 go_enter Tryz.func37, Tryz.ntmps37
 go_wp2_with (first
  | (go_at_call 67; with_reducible refine (show Calls Tryz.prog 67 #[.pointer (some ⟨q, 30, none⟩), .int .i64 1] w _ from K1.out).mono ?_; rintro e w1 ⟨rfl, rfl⟩)
  | (go_at_call 67; with_reducible refine (show Calls Tryz.prog 67 #[.pointer (some ⟨q, 30, none⟩), .int .i64 2] w _ from K2.out).mono ?_; rintro e w1 ⟨rfl, rfl⟩)
  | (go_at_call 67; with_reducible refine (show Calls Tryz.prog 67 #[.pointer (some ⟨q, 30, none⟩), .int .i64 3] w _ from K3.out).mono ?_; rintro e w1 ⟨rfl, rfl⟩)
  | (go_at_call 68; with_reducible refine (show Calls Tryz.prog 68 #[.pointer (some ⟨q, 30, none⟩), .int .i64 0] w _ from R0.out).mono ?_; rintro e w1 ⟨rfl, rfl⟩)
  | (go_at_call 69; with_reducible refine RS.out.mono ?_; rintro e w1 ⟨rfl, rfl⟩))
 refine wp_loop_rounds 1 ?_
 rw [rounds_succ]
 go_wp2_with fail
 go_ret
 exact ⟨rfl, Below.refl _ _⟩
end
theorem KI.nsr2 {r : KRule} {s : KSt} (h : KI r s) : ∃ a b : Nat, r.ns = a ∧ r.ws = b ∧ r.n true = 2 ^ a ∧ r.n false = 2 ^ b ∧ a ≤ 12 ∧ b ≤ 12 := by
 have h1 := kruleOk_b h.ok true
 have h2 := kruleOk_b h.ok false
 unfold ruleOk at h1 h2
 simp only [Bool.and_eq_true, decide_eq_true_eq] at h1 h2
 have h3 := layOk_iff.1 (show layOk _ r.ns _ = true from h1.1.1.1)
 have h4 := layOk_iff.1 (show layOk _ r.ws _ = true from h2.1.1.1)
 exact ⟨r.ns.toNat, r.ws.toNat, by omega, by omega, rfl, rfl, by omega, by omega⟩
theorem pow_ne2 {a b : Nat} (h : a ≠ b) : 2 ^ a ≠ 2 ^ b := fun e => by
 rcases Nat.lt_or_gt_of_ne h with q | q
 · exact absurd e (Nat.ne_of_lt (Nat.pow_lt_pow_right (by omega) q))
 · exact absurd e.symm (Nat.ne_of_lt (Nat.pow_lt_pow_right (by omega) q))
theorem shl_eq {p a x : Nat} (hp : 1 ≤ p ∧ p ≤ 16) (ha : a ≤ 12) (hx : x ≤ 12) : wrap64 ((p : Int) * (2 : Int) ^ a) = ((p * 2 ^ a : Nat) : Int) ∧ (((((p * 2 ^ x : Nat) : Int) != ((p * 2 ^ a : Nat) : Int))) = !decide (a = x)) := by
 have h1 : 2 ^ a ≤ 4096 := (Nat.pow_le_pow_right (by omega) ha : 2 ^ a ≤ 2 ^ 12)
 have h2 : p * 2 ^ a ≤ 16 * 4096 := Nat.mul_le_mul hp.2 h1
 have e : (p : Int) * (2 : Int) ^ a = ((p * 2 ^ a : Nat) : Int) := by simp
 refine ⟨?_, ?_⟩
 ·
  rw [e]
  unfold wrap64
  omega
 ·
  by_cases hax : a = x
  ·
   subst hax
   simp
  ·
   have h3 : p * 2 ^ x ≠ p * 2 ^ a := fun h => pow_ne2 (fun h => hax h.symm) (Nat.eq_of_mul_eq_mul_left (by omega) h)
   have h4 : ((p * 2 ^ x : Nat) : Int) ≠ ((p * 2 ^ a : Nat) : Int) := fun h => h3 (by exact_mod_cast h)
   rw [decide_eq_false hax]
   simpa using h4
section
variable {w w' : World} {q : Nat} {c : PCfg} {k : KPtr} {s : KSt} {X : Nat → Prop}
set_option maxRecDepth 100000 in
set_option maxHeartbeats 8000000 in
theorem slots_nil (h : PlnAt w q c k s X) (A : Option Addr) (d : Nat) (a b : Nat) (ha : a ≤ 9) (hb : b ≤ 9) : Calls Tryz.prog 33 #[ptr0 q, .agg #[.int .i64 c.r.np, .int .i64 (a : Int), .int .i64 (b : Int), .bool true], .slice A 0 d] w fun e w' => e = .returned (.bool (!(decide ((a : Int) = c.r.ns) && decide ((b : Int) = c.r.ws)))) ∧ Below w.heap.size w w' := by
 obtain ⟨x, y, hx, hy, hnx, hny, hx12, hy12⟩ := h.ki.nsr2
 obtain ⟨hnp, hp1⟩ := kruleOk_rng h.ki.ok
 have FR := fun (W : World) (hbW : Below w.heap.size w W) (pr i : Int) => plane_free (h.call hbW) pr i
 have F1 := Lib.hid fun (W : World) (hbW : Below w.heap.size w W) (i : Nat) (hi : i < c.r.p) => show Calls Tryz.prog 66 #[ptr0 q, .int .i64 6, .int .i64 (i : Int)] W fun e w' => e = .returned (.int .i64 ((2 ^ x : Nat) : Int)) ∧ Below W.heap.size W w' from by
  have h1 := FR W hbW 6 (i : Int)
  have h2 := h.fr true i hi
  have h3 : freeI c.r.p (s.S true) (i : Int) = ((2 ^ x : Nat) : Int) := by
   unfold freeI
   rw [if_pos ⟨by omega, by omega⟩, Int.toNat_natCast, h2, hnx]
  rw [← h3]
  exact h1
 have F2 := Lib.hid fun (W : World) (hbW : Below w.heap.size w W) (i : Nat) (hi : i < c.r.p) => show Calls Tryz.prog 66 #[ptr0 q, .int .i64 17, .int .i64 (i : Int)] W fun e w' => e = .returned (.int .i64 ((2 ^ y : Nat) : Int)) ∧ Below W.heap.size W w' from by
  have h1 := FR W hbW 17 (i : Int)
  have h2 := h.fr false i hi
  have h3 : freeI c.r.p (s.S false) (i : Int) = ((2 ^ y : Nat) : Int) := by
   unfold freeI
   rw [if_pos ⟨by omega, by omega⟩, Int.toNat_natCast, h2, hny]
  rw [← h3]
  exact h1
 have hpx : 2 ^ x ≤ 4096 := (Nat.pow_le_pow_right (by omega) hx12 : 2 ^ x ≤ 2 ^ 12)
 have hpy : 2 ^ y ≤ 4096 := (Nat.pow_le_pow_right (by omega) hy12 : 2 ^ y ≤ 2 ^ 12)
 have E1 := shl_eq (p := c.r.p) (a := a) hp1 (by omega) hx12
 have E2 := shl_eq (p := c.r.p) (a := b) hp1 (by omega) hy12
 rw [hx, hy]
 have hda : decide ((a : Int) = (x : Int)) = decide (a = x) := by rw [decide_eq_decide]; exact ⟨fun h => by omega, fun h => by omega⟩
 have hdb : decide ((b : Int) = (y : Int)) = decide (b = y) := by rw [decide_eq_decide]; exact ⟨fun h => by omega, fun h => by omega⟩
 rw [hda, hdb]
 have mn1 : min a 64 = a := Nat.min_eq_left (by omega)
 have mn2 : min b 64 = b := Nat.min_eq_left (by omega)
 have K := slots_core w (ptr0 q) c.r.p a b (2 ^ x) (2 ^ y) A d hp1 ha hb hpx hpy (decide (a = x)) (decide (b = y)) _ _ F1.out F2.out ⟨by rw [mn1]; exact E1.1, E1.2⟩ ⟨by rw [mn2]; exact E2.1, E2.2⟩
 rw [hnp]
 exact K
end
def nmOf (n : Int) : List UInt8 := if n = 1 then [101, 110, 116, 114, 121] else if n = 2 then [98, 97, 99, 107, 101, 110, 100] else if n = 3 then [116, 119, 105, 99, 101] else if n = 4 then [108, 111, 97, 100] else if n = 5 then [115, 108, 111, 116, 115] else if n = 6 then [111, 114, 100, 101, 114] else if n = 7 then [98, 111, 97, 114, 100] else []
theorem nm_cases (n : Int) : (n < 1 ∨ 7 < n) ∨ n = 1 ∨ n = 2 ∨ n = 3 ∨ n = 4 ∨ n = 5 ∨ n = 6 ∨ n = 7 := by omega
set_option maxRecDepth 100000 in
theorem audit_name (n : Int) (w : World) : Calls Tryz.prog 10 #[.int .i64 n] w fun e w' => e = .returned (.string ⟨(nmOf n).toArray⟩) ∧ Below w.heap.size w w' := by
 rcases nm_cases n with h | rfl | rfl | rfl | rfl | rfl | rfl | rfl
 ·
  have e : nmOf n = [] := by unfold nmOf; repeat rw [if_neg (by omega)]
  rw [e]
  by_cases h1 : n < 1
  ·
   go_enter Tryz.func10, Tryz.ntmps10
   go_wp2_with fail
   go_ret
   exact ⟨rfl, (by repeat (first | exact Below.refl _ _ | assumption | refine below_alloc ?_ _ | refine below_chain (by assumption) ?_ | refine below_call2 (by assumption) ?_ (by first | omega | (simp; done) | (simp; omega) | (simp [World.setCell]; omega)) | refine below_drewN ?_ _ | refine Below.drew ?_ | refine Below.alloc ?_ (by first | omega | (simp; done) | (simp; omega) | (simp [World.setCell]; omega)) _ | refine Below.setCell ?_ (by first | omega | (simp; done) | (simp; omega) | (simp [World.setCell]; omega)) _))⟩
  ·
   have h2 : 7 < n := by omega
   go_enter Tryz.func10, Tryz.ntmps10
   go_wp2_with fail
   go_ret
   exact ⟨rfl, (by repeat (first | exact Below.refl _ _ | assumption | refine below_alloc ?_ _ | refine below_chain (by assumption) ?_ | refine below_call2 (by assumption) ?_ (by first | omega | (simp; done) | (simp; omega) | (simp [World.setCell]; omega)) | refine below_drewN ?_ _ | refine Below.drew ?_ | refine Below.alloc ?_ (by first | omega | (simp; done) | (simp; omega) | (simp [World.setCell]; omega)) _ | refine Below.setCell ?_ (by first | omega | (simp; done) | (simp; omega) | (simp [World.setCell]; omega)) _))⟩
 ·
  go_enter Tryz.func10, Tryz.ntmps10
  go_wp2_with fail
  go_ret
  exact ⟨rfl, (by repeat (first | exact Below.refl _ _ | assumption | refine below_alloc ?_ _ | refine below_chain (by assumption) ?_ | refine below_call2 (by assumption) ?_ (by first | omega | (simp; done) | (simp; omega) | (simp [World.setCell]; omega)) | refine below_drewN ?_ _ | refine Below.drew ?_ | refine Below.alloc ?_ (by first | omega | (simp; done) | (simp; omega) | (simp [World.setCell]; omega)) _ | refine Below.setCell ?_ (by first | omega | (simp; done) | (simp; omega) | (simp [World.setCell]; omega)) _))⟩
 ·
  go_enter Tryz.func10, Tryz.ntmps10
  go_wp2_with fail
  go_ret
  exact ⟨rfl, (by repeat (first | exact Below.refl _ _ | assumption | refine below_alloc ?_ _ | refine below_chain (by assumption) ?_ | refine below_call2 (by assumption) ?_ (by first | omega | (simp; done) | (simp; omega) | (simp [World.setCell]; omega)) | refine below_drewN ?_ _ | refine Below.drew ?_ | refine Below.alloc ?_ (by first | omega | (simp; done) | (simp; omega) | (simp [World.setCell]; omega)) _ | refine Below.setCell ?_ (by first | omega | (simp; done) | (simp; omega) | (simp [World.setCell]; omega)) _))⟩
 ·
  go_enter Tryz.func10, Tryz.ntmps10
  go_wp2_with fail
  go_ret
  exact ⟨rfl, (by repeat (first | exact Below.refl _ _ | assumption | refine below_alloc ?_ _ | refine below_chain (by assumption) ?_ | refine below_call2 (by assumption) ?_ (by first | omega | (simp; done) | (simp; omega) | (simp [World.setCell]; omega)) | refine below_drewN ?_ _ | refine Below.drew ?_ | refine Below.alloc ?_ (by first | omega | (simp; done) | (simp; omega) | (simp [World.setCell]; omega)) _ | refine Below.setCell ?_ (by first | omega | (simp; done) | (simp; omega) | (simp [World.setCell]; omega)) _))⟩
 ·
  go_enter Tryz.func10, Tryz.ntmps10
  go_wp2_with fail
  go_ret
  exact ⟨rfl, (by repeat (first | exact Below.refl _ _ | assumption | refine below_alloc ?_ _ | refine below_chain (by assumption) ?_ | refine below_call2 (by assumption) ?_ (by first | omega | (simp; done) | (simp; omega) | (simp [World.setCell]; omega)) | refine below_drewN ?_ _ | refine Below.drew ?_ | refine Below.alloc ?_ (by first | omega | (simp; done) | (simp; omega) | (simp [World.setCell]; omega)) _ | refine Below.setCell ?_ (by first | omega | (simp; done) | (simp; omega) | (simp [World.setCell]; omega)) _))⟩
 ·
  go_enter Tryz.func10, Tryz.ntmps10
  go_wp2_with fail
  go_ret
  exact ⟨rfl, (by repeat (first | exact Below.refl _ _ | assumption | refine below_alloc ?_ _ | refine below_chain (by assumption) ?_ | refine below_call2 (by assumption) ?_ (by first | omega | (simp; done) | (simp; omega) | (simp [World.setCell]; omega)) | refine below_drewN ?_ _ | refine Below.drew ?_ | refine Below.alloc ?_ (by first | omega | (simp; done) | (simp; omega) | (simp [World.setCell]; omega)) _ | refine Below.setCell ?_ (by first | omega | (simp; done) | (simp; omega) | (simp [World.setCell]; omega)) _))⟩
 ·
  go_enter Tryz.func10, Tryz.ntmps10
  go_wp2_with fail
  go_ret
  exact ⟨rfl, (by repeat (first | exact Below.refl _ _ | assumption | refine below_alloc ?_ _ | refine below_chain (by assumption) ?_ | refine below_call2 (by assumption) ?_ (by first | omega | (simp; done) | (simp; omega) | (simp [World.setCell]; omega)) | refine below_drewN ?_ _ | refine Below.drew ?_ | refine Below.alloc ?_ (by first | omega | (simp; done) | (simp; omega) | (simp [World.setCell]; omega)) _ | refine Below.setCell ?_ (by first | omega | (simp; done) | (simp; omega) | (simp [World.setCell]; omega)) _))⟩
 ·
  go_enter Tryz.func10, Tryz.ntmps10
  go_wp2_with fail
  go_ret
  exact ⟨rfl, (by repeat (first | exact Below.refl _ _ | assumption | refine below_alloc ?_ _ | refine below_chain (by assumption) ?_ | refine below_call2 (by assumption) ?_ (by first | omega | (simp; done) | (simp; omega) | (simp [World.setCell]; omega)) | refine below_drewN ?_ _ | refine Below.drew ?_ | refine Below.alloc ?_ (by first | omega | (simp; done) | (simp; omega) | (simp [World.setCell]; omega)) _ | refine Below.setCell ?_ (by first | omega | (simp; done) | (simp; omega) | (simp [World.setCell]; omega)) _))⟩
set_option maxRecDepth 100000 in
theorem ref38_names (w : World) : Calls Tryz.prog 39 #[] w fun e w' => ∃ g, e = .returned (.slice (some ⟨g, 0, none⟩) 7 7) ∧ Blk w' g 9 #[.string ⟨#[101, 110, 116, 114, 121]⟩, .string ⟨#[98, 97, 99, 107, 101, 110, 100]⟩, .string ⟨#[116, 119, 105, 99, 101]⟩, .string ⟨#[108, 111, 97, 100]⟩, .string ⟨#[115, 108, 111, 116, 115]⟩, .string ⟨#[111, 114, 100, 101, 114]⟩, .string ⟨#[98, 111, 97, 114, 100]⟩] ∧ Below w.heap.size w w' := by
 go_enter Tryz.func39, Tryz.ntmps39
 go_wp2_with fail
 go_ret
 exact ⟨_, rfl, Blk.new w _ _, below_alloc (Below.refl _ _) _⟩
set_option maxRecDepth 100000 in
theorem ref38_name (n : Int) (w : World) : Calls Tryz.prog 11 #[.int .i64 n] w fun e w' => e = .returned (.string ⟨(nmOf n).toArray⟩) ∧ Below w.heap.size w w' := by
 have NS := Lib.hid fun W => ref38_names W
 rcases nm_cases n with h | rfl | rfl | rfl | rfl | rfl | rfl | rfl
 ·
  have e : nmOf n = [] := by unfold nmOf; repeat rw [if_neg (by omega)]
  rw [e]
  by_cases h1 : n < 1
  ·
   go_enter Tryz.func11, Tryz.ntmps11
   go_wp2_with fail
   go_ret
   exact ⟨rfl, (by repeat (first | exact Below.refl _ _ | assumption | refine below_alloc ?_ _ | refine below_chain (by assumption) ?_ | refine below_call2 (by assumption) ?_ (by first | omega | (simp; done) | (simp; omega) | (simp [World.setCell]; omega)) | refine below_drewN ?_ _ | refine Below.drew ?_ | refine Below.alloc ?_ (by first | omega | (simp; done) | (simp; omega) | (simp [World.setCell]; omega)) _ | refine Below.setCell ?_ (by first | omega | (simp; done) | (simp; omega) | (simp [World.setCell]; omega)) _))⟩
  ·
   have h2 : 7 < n := by omega
   go_enter Tryz.func11, Tryz.ntmps11
   go_wp2_with fail
   go_ret
   exact ⟨rfl, (by repeat (first | exact Below.refl _ _ | assumption | refine below_alloc ?_ _ | refine below_chain (by assumption) ?_ | refine below_call2 (by assumption) ?_ (by first | omega | (simp; done) | (simp; omega) | (simp [World.setCell]; omega)) | refine below_drewN ?_ _ | refine Below.drew ?_ | refine Below.alloc ?_ (by first | omega | (simp; done) | (simp; omega) | (simp [World.setCell]; omega)) _ | refine Below.setCell ?_ (by first | omega | (simp; done) | (simp; omega) | (simp [World.setCell]; omega)) _))⟩
 ·
  go_enter Tryz.func11, Tryz.ntmps11
  go_wp2_with (go_at_call 39; (with_reducible refine (NS.out _).mono ?_); rintro e w1 ⟨g, rfl, hB, hb⟩; have c0 : w1.cell? ⟨g, 0, none⟩ = some (.string ⟨#[101, 110, 116, 114, 121]⟩) := hB.cell 0)
  go_ret
  exact ⟨rfl, hb⟩
 ·
  go_enter Tryz.func11, Tryz.ntmps11
  go_wp2_with (go_at_call 39; (with_reducible refine (NS.out _).mono ?_); rintro e w1 ⟨g, rfl, hB, hb⟩; have c1 : w1.cell? ⟨g, 1, none⟩ = some (.string ⟨#[98, 97, 99, 107, 101, 110, 100]⟩) := hB.cell 1)
  go_ret
  exact ⟨rfl, hb⟩
 ·
  go_enter Tryz.func11, Tryz.ntmps11
  go_wp2_with (go_at_call 39; (with_reducible refine (NS.out _).mono ?_); rintro e w1 ⟨g, rfl, hB, hb⟩; have c2 : w1.cell? ⟨g, 2, none⟩ = some (.string ⟨#[116, 119, 105, 99, 101]⟩) := hB.cell 2)
  go_ret
  exact ⟨rfl, hb⟩
 ·
  go_enter Tryz.func11, Tryz.ntmps11
  go_wp2_with (go_at_call 39; (with_reducible refine (NS.out _).mono ?_); rintro e w1 ⟨g, rfl, hB, hb⟩; have c3 : w1.cell? ⟨g, 3, none⟩ = some (.string ⟨#[108, 111, 97, 100]⟩) := hB.cell 3)
  go_ret
  exact ⟨rfl, hb⟩
 ·
  go_enter Tryz.func11, Tryz.ntmps11
  go_wp2_with (go_at_call 39; (with_reducible refine (NS.out _).mono ?_); rintro e w1 ⟨g, rfl, hB, hb⟩; have c4 : w1.cell? ⟨g, 4, none⟩ = some (.string ⟨#[115, 108, 111, 116, 115]⟩) := hB.cell 4)
  go_ret
  exact ⟨rfl, hb⟩
 ·
  go_enter Tryz.func11, Tryz.ntmps11
  go_wp2_with (go_at_call 39; (with_reducible refine (NS.out _).mono ?_); rintro e w1 ⟨g, rfl, hB, hb⟩; have c5 : w1.cell? ⟨g, 5, none⟩ = some (.string ⟨#[111, 114, 100, 101, 114]⟩) := hB.cell 5)
  go_ret
  exact ⟨rfl, hb⟩
 ·
  go_enter Tryz.func11, Tryz.ntmps11
  go_wp2_with (go_at_call 39; (with_reducible refine (NS.out _).mono ?_); rintro e w1 ⟨g, rfl, hB, hb⟩; have c6 : w1.cell? ⟨g, 6, none⟩ = some (.string ⟨#[98, 111, 97, 114, 100]⟩) := hB.cell 6)
  go_ret
  exact ⟨rfl, hb⟩
theorem plane_given_nil (w : World) : Calls Tryz.prog 70 #[.pointer none] w fun e w' => e = .returned (.bool false) ∧ w = w' := by
 go_enter Tryz.func70, Tryz.ntmps70
 go_wp2_with fail
 go_ret
 exact ⟨rfl, rfl⟩
theorem plane_kept_nil (w : World) : Calls Tryz.prog 52 #[.pointer none] w fun e w' => e = .returned (.pointer none) ∧ w = w' := by
 have GV := Lib.hid (plane_given_nil w)
 go_enter Tryz.func52, Tryz.ntmps52
 go_wp2_with (go_at_call 70; with_reducible refine GV.out.mono ?_; rintro e w1 ⟨rfl, rfl⟩)
 go_ret
 exact ⟨rfl, rfl⟩
theorem plane_live_nil (w : World) : Calls Tryz.prog 22 #[.pointer none] w fun e w' => e = .returned (.slice none 0 0) ∧ w = w' := by
 have KP := Lib.hid (plane_kept_nil w)
 have LV := Lib.hid (kno_live (v := .pointer none) (w := w) (.inl rfl))
 go_enter Tryz.func22, Tryz.ntmps22
 go_wp2_with (first | (go_at_call 52; with_reducible refine KP.out.mono ?_; rintro e w1 ⟨rfl, rfl⟩) | (go_at_call 53; with_reducible refine LV.out.mono ?_; rintro e w1 ⟨rfl, rfl⟩))
 go_ret
 exact ⟨rfl, rfl⟩
theorem count_none (w : World) : Calls Tryz.prog 17 #[.pointer none] w fun e w' => e = .returned (.map (some w.heap.size)) ∧ w' = w.alloc (.map #[] 0) := by
 have LV := Lib.hid fun W => plane_live_nil W
 have hmm := @run_makeMap Tryz.prog
 go_enter Tryz.func17, Tryz.ntmps17
 go_wp2_with (go_at_call 22; with_reducible refine (LV.out _).mono ?_; rintro e w1 ⟨rfl, rfl⟩)
 refine wp_loop_rounds 1 ?_
 rw [rounds_succ]
 go_wp2_with fail
 go_ret
 exact ⟨rfl, rfl⟩
theorem check_none (w : World) : Calls Tryz.prog 9 #[.pointer none, .agg #[.int .i64 0, .int .i64 0, .int .i64 0, .bool false]] w fun e w' => e = .returned (.slice none 0 0) ∧ Below w.heap.size w w' := by
 go_enter Tryz.func9, Tryz.ntmps9
 go_wp2_with fail
 go_ret
 exact ⟨rfl, (by repeat (first | exact Below.refl _ _ | assumption | refine below_alloc ?_ _ | refine below_chain (by assumption) ?_ | refine below_call2 (by assumption) ?_ (by first | omega | (simp; done) | (simp; omega) | (simp [World.setCell]; omega)) | refine below_drewN ?_ _ | refine Below.drew ?_ | refine Below.alloc ?_ (by first | omega | (simp; done) | (simp; omega) | (simp [World.setCell]; omega)) _ | refine Below.setCell ?_ (by first | omega | (simp; done) | (simp; omega) | (simp [World.setCell]; omega)) _))⟩
set_option maxRecDepth 100000 in
theorem awake38 (w : World) : Calls Tryz.prog 6 #[] w fun e w' => e = .returned (.bool true) ∧ Below w.heap.size w w' := by
 have N3 := Lib.hid fun W => show Calls Tryz.prog 10 #[.int .i64 3] W fun e w' => e = .returned (.string ⟨#[116, 119, 105, 99, 101]⟩) ∧ Below W.heap.size W w' from audit_name 3 W
 have N0 := Lib.hid fun W => show Calls Tryz.prog 10 #[.int .i64 0] W fun e w' => e = .returned (.string ⟨#[]⟩) ∧ Below W.heap.size W w' from audit_name 0 W
 have CN := Lib.hid fun W => check_none W
 have CO := Lib.hid fun W => count_none W
 have hl : ∀ W : World, (Builtin.len_ #[61] 3 #[.map (some W.heap.size)]).run Tryz.prog (W.alloc (.map #[] 0)) = .ok (.int .i64 0) (W.alloc (.map #[] 0)) := fun W => by
  have h : Imap (W.alloc (.map #[] 0)) W.heap.size [] := World.ownsMap_made W _ _ _
  exact h.len
 go_enter Tryz.func6, Tryz.ntmps6
 go_wp2_with (first
  | (go_at_call 10; (with_reducible refine (N3.out _).mono ?_); rintro e w1 ⟨rfl, hb1⟩)
  | (go_at_call 10; (with_reducible refine (N0.out _).mono ?_); rintro e w2 ⟨rfl, hb2⟩)
  | (go_at_call 9; (with_reducible refine (CN.out _).mono ?_); rintro e w3 ⟨rfl, hb3⟩)
  | (go_at_call 17; (with_reducible refine (CO.out _).mono ?_); rintro e w4 ⟨rfl, rfl⟩))
 go_ret
 exact ⟨rfl, (by repeat (first | exact Below.refl _ _ | assumption | refine below_alloc ?_ _ | refine below_chain (by assumption) ?_ | refine below_call2 (by assumption) ?_ (by first | omega | (simp; done) | (simp; omega) | (simp [World.setCell]; omega)) | refine below_drewN ?_ _ | refine Below.drew ?_ | refine Below.alloc ?_ (by first | omega | (simp; done) | (simp; omega) | (simp [World.setCell]; omega)) _ | refine Below.setCell ?_ (by first | omega | (simp; done) | (simp; omega) | (simp [World.setCell]; omega)) _))⟩
section
variable {w w' : World} {q : Nat} {c : PCfg} {k : KPtr} {s : KSt} {X : Nat → Prop}
theorem check_new (h : PlnAt w q c k s X) (a b : Nat) (ha : a ≤ 9) (hb : b ≤ 9) :
  Calls Tryz.prog 9 #[ptr0 q, .agg #[.int .i64 c.r.np, .int .i64 (a : Int), .int .i64 (b : Int), .bool true]] w fun e w' => ∃ B k', e = .returned (.slice B (oL (!(decide ((a : Int) = c.r.ns) && decide ((b : Int) = c.r.ws))) 7).length k') ∧ OwnI w' w.heap.size B k' (oL (!(decide ((a : Int) = c.r.ns) && decide ((b : Int) = c.r.ws))) 7) ∧ Below w.heap.size w w' :=
 check_core w q c.r.np a b (fun _ hW => plane_live (h.call hW)) (fun _ hW => plane_list (h.call hW)) (fun A d W _ => entries_nil A d W) (fun A d W _ => strangers_nil A d W) (fun A d W _ => twice_nil _ A d W)
  (fun _ hW => loads_nil (h.call hW)) _ (fun A d _ hW => slots_nil (h.call hW) A d a b ha hb) (fun W _ => order_nil W) _
  (fun _ hW => (plane_board (h.call hW)).mono fun _ _ ⟨e, hw⟩ => ⟨e, hw ▸ Below.refl _ _⟩) (fun _ hW => board_nil (h.call hW))
end
theorem wpList_load_blkG {P : Program} {ops : Array Oper} {rest : List Oper} {op : Oper} {a : Act} {w : World} {Q : Exit → Act → World → Prop} (hw : Region.wanted op (yielded ops a.tmps) = true) (ty : TypeId) (x : Operand) (ho : op.op = .load ty x) (b o : Nat) (hx : a.eval x = .pointer (some ⟨b, o, none⟩)) {t : TypeId} {cs : Array Value} (hB : Blk w b t cs) (vs : List Value) (hs : (cs.toList.drop o).take vs.length = vs) (d : TypeDesc)
  (hu : P.underlying ty = some d) (hd : d.isRow = true) (hi : (P.info? ty).map (·.size) = some vs.length) (h : wpList P ops Q rest (a.put op.dst (.agg vs.toArray)) w) : wpList P ops Q (op :: rest) a w := by
 unfold wpList
 rw [if_pos hw]
 exact Or.inl (wp_load_blk ty x ho b o hx hB vs hs d hu hd hi h)
theorem one_five {w : World} {base k : Nat} {B : Option Addr} (h : OwnI w base B k (oL true 7)) : ∃ g, B = some ⟨g, 0, none⟩ ∧ w.cell? ⟨g, 0, none⟩ = some (.int .i64 5) := by
 have hR := h.reads
 obtain ⟨ad, u, hB, -, hu, hc⟩ := hR.at_ (k := 0) (by simp [oL])
 have hu2 : u = .int .i64 5 := by simpa [oL, icell] using hu.symm
 subst hu2 hB
 rcases h.2 with ⟨h1, _⟩ | ⟨g, cap, cur, h1, _⟩
 · cases h1
 ·
  simp only [Value.slice.injEq, Option.some.injEq] at h1
  obtain ⟨rfl, -⟩ := h1
  exact ⟨g, rfl, hc⟩
set_option maxRecDepth 100000 in
set_option maxHeartbeats 16000000 in
theorem auditShape_calls (c : PCfg) (na wi n : Int) (w : World) (hna : 0 ≤ na ∧ na < 256) (hwi : 0 ≤ wi ∧ wi < 256) :
  Calls Tryz.prog 3 #[c.val, .int .u8 na, .int .u8 wi, .int .i64 n] w fun e w' => e = .returned (.bool true) ∧ Below w.heap.size w w' := by
 have AW := Lib.hid awake38
 obtain ⟨c2, hc2⟩ : ∃ c2 : PCfg, c2 = { c with sf := true } := ⟨_, rfl⟩
 obtain ⟨w1, hw1⟩ : ∃ w1, w1 = w.alloc (.cells c2.cells.toArray 38) := ⟨_, rfl⟩
 have K2 : Blk w1 w.heap.size 38 c2.cells.toArray := by rw [hw1]; exact Blk.new w _ _
 have hb1 : Below w.heap.size w w1 := by rw [hw1]; exact below_alloc (Below.refl _ _) _
 have RC := Lib.hid fun W (hb : Below w1.heap.size w1 W) => (show Blk W w.heap.size 38 c2.cells.toArray from K2.call hb)
 rw [hc2] at hw1
 replace hw1 := Lib.hid hw1
 have RR := Lib.hid fun W => refplane_right c2 W
 have RS := Lib.hid fun W => ref34_small c2 W
 have LO := Lib.hid fun W => law38_of c2 W
 have PM := Lib.hid fun hk W => plane_made c2 hk W
 clear K2 hc2
 replace hb1 := Lib.hid hb1
 have hk : (pcfgOk c2 = false) ∨ (pcfgOk c2 = true ∧ psmall c2 = false) ∨ (pcfgOk c2 = true ∧ psmall c2 = true) := by
  cases pcfgOk c2 <;> cases psmall c2 <;> simp
 go_enter Tryz.func3, Tryz.ntmps3
 go_upto_region 2 with fail
 change Code.wp _ _ _ _ (w.alloc (.cells ({ c with sf := true } : PCfg).cells.toArray 38))
 rw [← hw1.out]
 clear hw1
 have KC := RC.out w1 (Below.refl _ _)
 rcases hk with h1 | ⟨h1, h2⟩ | ⟨h1, h2⟩
 ·
  rw [h1] at RR
  clear h1 RS
  go_wp2_with (first
   | (with_reducible refine wpList_load_blk rfl 38 (.tmp 4) rfl w.heap.size 0 rfl KC c2.cells rfl _ Tryz.underlying38 rfl (by kernel_rfl) ?_)
   | (go_at_call 4; (with_reducible refine (RR.out _).mono ?_); rintro e w2 ⟨rfl, hb2⟩; replace KC := RC.out w2 (by repeat (first | exact Below.refl _ _ | assumption | refine below_chain (by assumption) ?_)))
   | (go_at_call 5; (with_reducible refine (RS.out _).mono ?_); rintro e w3 ⟨rfl, hb3⟩; replace KC := RC.out w3 (by repeat (first | exact Below.refl _ _ | assumption | refine below_chain (by assumption) ?_)))
   | (go_at_call 6; (with_reducible refine (AW.out _).mono ?_); rintro e w9 ⟨rfl, hb9⟩))
  go_ret
  exact ⟨rfl, below_chain (below_chain hb9 hb2) hb1.out⟩
 ·
  rw [h1] at RR
  rw [h2] at RS
  clear h1 h2
  go_wp2_with (first
   | (with_reducible refine wpList_load_blk rfl 38 (.tmp 4) rfl w.heap.size 0 rfl KC c2.cells rfl _ Tryz.underlying38 rfl (by kernel_rfl) ?_)
   | (with_reducible refine wpList_load_blkG (by kernel_rfl) 38 (.tmp 4) rfl w.heap.size 0 rfl KC c2.cells rfl _ Tryz.underlying38 rfl (by kernel_rfl) ?_)
   | (go_at_call 4; (with_reducible refine (RR.out _).mono ?_); rintro e w2 ⟨rfl, hb2⟩; replace KC := RC.out w2 (by repeat (first | exact Below.refl _ _ | assumption | refine below_chain (by assumption) ?_)))
   | (go_at_call 5; (with_reducible refine (RS.out _).mono ?_); rintro e w3 ⟨rfl, hb3⟩; replace KC := RC.out w3 (by repeat (first | exact Below.refl _ _ | assumption | refine below_chain (by assumption) ?_)))
   | (go_at_call 6; (with_reducible refine (AW.out _).mono ?_); rintro e w9 ⟨rfl, hb9⟩))
  go_ret
  exact ⟨rfl, below_chain (below_chain hb9 (below_chain hb3 hb2)) hb1.out⟩
 ·
  have PM1 := Lib.hid fun W => PM.out h1 W
  rw [h1] at RR
  rw [h2] at RS
  clear h1 h2 PM
  go_upto_region 4 with (first
   | (with_reducible refine wpList_load_blk rfl 38 (.tmp 4) rfl w.heap.size 0 rfl KC c2.cells rfl _ Tryz.underlying38 rfl (by kernel_rfl) ?_)
   | (with_reducible refine wpList_load_blkG (by kernel_rfl) 38 (.tmp 4) rfl w.heap.size 0 rfl KC c2.cells rfl _ Tryz.underlying38 rfl (by kernel_rfl) ?_)
   | (go_at_call 4; (with_reducible refine (RR.out _).mono ?_); rintro e w2 ⟨rfl, hb2⟩; replace KC := RC.out w2 (by repeat (first | exact Below.refl _ _ | assumption | refine below_chain (by assumption) ?_)))
   | (go_at_call 5; (with_reducible refine (RS.out _).mono ?_); rintro e w3 ⟨rfl, hb3⟩; replace KC := RC.out w3 (by repeat (first | exact Below.refl _ _ | assumption | refine below_chain (by assumption) ?_)))
   | (go_at_call 6; (with_reducible refine (AW.out _).mono ?_); rintro e w9 ⟨rfl, hb9⟩))
  have hbA := below_chain hb3 hb2
  clear hb2 hb3
  go_upto_region 5 with (first
   | (with_reducible refine wpList_load_blk rfl 38 (.tmp 4) rfl w.heap.size 0 rfl KC c2.cells rfl _ Tryz.underlying38 rfl (by kernel_rfl) ?_)
   | (go_at_call 8; (with_reducible refine (LO.out _).mono ?_); rintro e w4 ⟨rfl, hb4⟩)
   | (go_at_call 7; (with_reducible refine (PM1.out _).mono ?_); rintro e w5 ⟨q, k, s, X, rfl, hP, hb5⟩))
  have hbB := below_chain hb5 (below_chain hb4 hbA)
  clear hb4 hb5 KC
  have z15 : w5.cell? ⟨w.heap.size, 15, none⟩ = some (.int .i64 c2.r.np) := (RC.out w5 hbB).cell 15
  obtain ⟨a, ha⟩ : ∃ a : Nat, na % 10 = (a : Int) := ⟨(na % 10).toNat, by omega⟩
  obtain ⟨b, hb⟩ : ∃ b : Nat, wi % 10 = (b : Int) := ⟨(wi % 10).toNat, by omega⟩
  have t1 : IntKind.i64.wrap na = na := by rw [IntKind.wrap_i64]; omega
  have t2 : IntKind.i64.wrap wi = wi := by rw [IntKind.wrap_i64]; omega
  have CN := Lib.hid (check_new hP a b (by omega) (by omega))
  obtain ⟨hn1, hn2⟩ := hna
  obtain ⟨hm1, hm2⟩ := hwi
  have N1 := Lib.hid fun W => audit_name n W
  have N2 := Lib.hid fun W => ref38_name n W
  obtain ⟨nm, hnm⟩ : ∃ nm, nmOf n = nm := ⟨_, rfl⟩
  rw [hnm] at N1 N2
  clear hnm hP
  have hk : ((a : Int) == c2.r.ns) = false ∨ (((a : Int) == c2.r.ns) = true ∧ ((b : Int) == c2.r.ws) = false) ∨ (((a : Int) == c2.r.ns) = true ∧ ((b : Int) == c2.r.ws) = true) := by
   cases ((a : Int) == c2.r.ns) <;> cases ((b : Int) == c2.r.ws) <;> simp
  rcases hk with e1 | ⟨e1, e2⟩ | ⟨e1, e2⟩
  ·
   have hr : (!(decide ((a : Int) = c2.r.ns) && decide ((b : Int) = c2.r.ws))) = true := by simp at e1; simp [e1]
   rw [hr] at CN
   clear hr
   go_upto_region 9 with (go_at_call 9; (with_reducible refine CN.out.mono ?_); rintro e w6 ⟨B, kk, rfl, hO, hb6⟩)
   replace hbB := below_chain hb6 hbB
   clear z15
   have z8 : w6.cell? ⟨w.heap.size, 8, none⟩ = some (.int .i64 c2.r.ns) := (RC.out w6 hbB).cell 8
   have z11 : w6.cell? ⟨w.heap.size, 11, none⟩ = some (.int .i64 c2.r.ws) := (RC.out w6 hbB).cell 11
   obtain ⟨g, hB, hc5⟩ := one_five hO
   subst hB
   clear CN
   go_wp2_with (first
    | (go_at_call 10; (with_reducible refine (N1.out _).mono ?_); rintro e w7 ⟨rfl, hb7⟩)
    | (go_at_call 11; (with_reducible refine (N2.out _).mono ?_); rintro e w8 ⟨rfl, hb8⟩)
    | (go_at_call 6; (with_reducible refine (AW.out _).mono ?_); rintro e w9 ⟨rfl, hb9⟩))
   go_ret
   exact ⟨rfl, below_chain (below_chain hb9 (below_chain hb8 (below_chain hb7 hbB))) hb1.out⟩
  ·
   have hr : (!(decide ((a : Int) = c2.r.ns) && decide ((b : Int) = c2.r.ws))) = true := by simp at e1 e2; simp [e1, e2]
   rw [hr] at CN
   clear hr
   go_upto_region 9 with (go_at_call 9; (with_reducible refine CN.out.mono ?_); rintro e w6 ⟨B, kk, rfl, hO, hb6⟩)
   replace hbB := below_chain hb6 hbB
   clear z15
   have z8 : w6.cell? ⟨w.heap.size, 8, none⟩ = some (.int .i64 c2.r.ns) := (RC.out w6 hbB).cell 8
   have z11 : w6.cell? ⟨w.heap.size, 11, none⟩ = some (.int .i64 c2.r.ws) := (RC.out w6 hbB).cell 11
   obtain ⟨g, hB, hc5⟩ := one_five hO
   subst hB
   clear CN
   go_wp2_with (first
    | (go_at_call 10; (with_reducible refine (N1.out _).mono ?_); rintro e w7 ⟨rfl, hb7⟩)
    | (go_at_call 11; (with_reducible refine (N2.out _).mono ?_); rintro e w8 ⟨rfl, hb8⟩)
    | (go_at_call 6; (with_reducible refine (AW.out _).mono ?_); rintro e w9 ⟨rfl, hb9⟩))
   go_ret
   exact ⟨rfl, below_chain (below_chain hb9 (below_chain hb8 (below_chain hb7 hbB))) hb1.out⟩
  ·
   have hr : (!(decide ((a : Int) = c2.r.ns) && decide ((b : Int) = c2.r.ws))) = false := by simp at e1 e2; simp [e1, e2]
   rw [hr] at CN
   clear hr
   go_upto_region 9 with (go_at_call 9; (with_reducible refine CN.out.mono ?_); rintro e w6 ⟨B, kk, rfl, hO, hb6⟩)
   replace hbB := below_chain hb6 hbB
   clear z15
   have z8 : w6.cell? ⟨w.heap.size, 8, none⟩ = some (.int .i64 c2.r.ns) := (RC.out w6 hbB).cell 8
   have z11 : w6.cell? ⟨w.heap.size, 11, none⟩ = some (.int .i64 c2.r.ws) := (RC.out w6 hbB).cell 11
   clear hO
   clear CN
   go_wp2_with (first
    | (go_at_call 10; (with_reducible refine (N1.out _).mono ?_); rintro e w7 ⟨rfl, hb7⟩)
    | (go_at_call 11; (with_reducible refine (N2.out _).mono ?_); rintro e w8 ⟨rfl, hb8⟩)
    | (go_at_call 6; (with_reducible refine (AW.out _).mono ?_); rintro e w9 ⟨rfl, hb9⟩))
   go_ret
   exact ⟨rfl, below_chain (below_chain hb9 (below_chain hb8 (below_chain hb7 hbB))) hb1.out⟩
theorem bd_u64y {x : Int} (h : (Lit.int .u64 x).wf = true) : 0 ≤ x ∧ x < 18446744073709551616 := by
 simp [Lit.wf, IntKind.min, IntKind.max, IntKind.signed, IntKind.bits] at h
 omega
theorem bd_u8y {x : Int} (h : (Lit.int .u8 x).wf = true) : 0 ≤ x ∧ x < 256 := by
 simp [Lit.wf, IntKind.min, IntKind.max, IntKind.signed, IntKind.bits] at h
 omega
theorem auditShape_open (v : Bool) (hi lo : Int) (hhi : (Lit.int .u64 hi).wf = true) (hlo : (Lit.int .u64 lo).wf = true) (port : Int) (sf fb : Bool) (inst : Int) (r : KRule) (pk ps ri fa na wi n : Int) (hna : (Lit.int .u8 na).wf = true) (hwi : (Lit.int .u8 wi).wf = true) (w : World) :
  Calls Tryz.prog 3 #[.agg #[.bool v, .int .u64 hi, .int .u64 lo, .int .i64 port, .bool sf, .bool fb, .int .i64 inst, .bool r.nw, .int .i64 r.ns, .int .i64 r.ng, .bool r.ww, .int .i64 r.ws, .int .i64 r.wg, .int .u64 r.ka, .int .u64 r.kb, .int .i64 r.np, .int .i64 r.a, .int .i64 r.b, .int .i64 r.c, .int .i64 r.d, .int .i64 r.G, .int .i64 pk, .int .i64 ps, .int .i64 ri, .int .i64 fa], .int .u8 na, .int .u8 wi, .int .i64 n] w fun e w' => e = .returned (.bool true) ∧ Below w.heap.size w w' := by
 obtain ⟨h, rfl⟩ := Int.eq_ofNat_of_zero_le (bd_u64y hhi).1
 obtain ⟨l, rfl⟩ := Int.eq_ofNat_of_zero_le (bd_u64y hlo).1
 exact auditShape_calls ⟨v, h, l, port, sf, fb, inst, r, pk, ps, ri, fa⟩ na wi n w (bd_u8y hna) (bd_u8y hwi)
end Go.Proofs.YtohapcacckapoaaGreat
