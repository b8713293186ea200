/- verdict: boards. -/
import Derived.Test.YtdkcjfcjckpjcaaVerdictA
namespace Go.Proofs.Ytdkcjfcjckpjcaa
open Go Go.RowKit Go.Deep

/-- A board: four counts of kinds, seventeen of reasons, the firsts and the bytes. -/
def BoardP (w : World) (g : Nat) (f : Nat → Int) : Prop := w.rowIs g 77 23 (fun i => .int .i64 (f i))
def bump (f : Nat → Int) (i : Nat) (d : Int) : Nat → Int := fun j => if j = i then f j + d else f j
def putB (f : Nat → Int) (v : Vd) : Nat → Int :=
  let a := bump (bump (bump f v.k.toNat 1) (4 + v.e.toNat) 1) 22 (v.s.size : Int)
  if v.f then bump a 21 1 else a

theorem vRight_bd {v : Vd} (h : vRight v = true) : 1 ≤ v.k ∧ v.k ≤ 3 ∧ 0 ≤ v.e ∧ v.e ≤ 16 := by
  unfold vRight at h
  split at h
  · simp at *; omega
  · split at h
    · simp at *; omega
    · cases h

theorem bump_bd {f : Nat → Int} {B : Int} (h : ∀ i, 0 ≤ f i ∧ f i ≤ B) (i : Nat) (d : Int) (hd : 0 ≤ d) : ∀ j, 0 ≤ bump f i d j ∧ bump f i d j ≤ B + d := by
  intro j
  have := h j
  unfold bump
  split <;> omega
theorem row_bump {w : World} {g : Nat} {t : TypeId} {n : Nat} {f : Nat → Int} (h : w.rowIs g t n (fun i => .int .i64 (f i))) (i : Nat) (d x : Int) (hx : f i = x) :
    (w.setCell ⟨g, i, none⟩ (.int .i64 (x + d))).rowIs g t n (fun j => .int .i64 (bump f i d j)) :=
  (h.set i _).congr fun j _ => by
    by_cases e : j = i
    · subst e; simp [bump, hx]
    · simp [bump, e]

theorem put_no (g : Nat) (v : Vd) (w : World) (hR : vRight v = false) :
    Calls Try.prog 62 #[.pointer (some ⟨g, 0, none⟩), .agg v.cells] w fun e w' => e = .returned (.bool false) ∧ Below w.heap.size w w' := by
  obtain ⟨k, er, b, c, fi, s⟩ := v
  have C := right_v ⟨k, er, b, c, fi, s⟩
  rw [hR] at C
  replace C := Lib.hid C
  clear hR
  go_enter Try.func62, Try.ntmps62
  go_wp2_with (go_at_call 47; refine (C.out _).mono ?_; rintro e w1 ⟨rfl, hb1⟩)
  go_ret
  exact ⟨rfl, (by repeat (first | exact Below.refl _ _ | assumption | refine below_call2 (by assumption) ?_ (by first | omega | (simp; done) | (simp; omega) | (simp [World.setCell]; omega)) | refine below_drewN ?_ _ | refine Below.drew ?_ | refine Below.alloc ?_ (by first | omega | (simp; done) | (simp; omega) | (simp [World.setCell]; omega)) _ | refine Below.setCell ?_ (by first | omega | (simp; done) | (simp; omega) | (simp [World.setCell]; omega)) _))⟩

set_option maxRecDepth 100000 in
set_option maxHeartbeats 1000000 in
theorem put_yes (g : Nat) (f : Nat → Int) (v : Vd) (w : World) (h : BoardP w g f) (hR : vRight v = true) (hf : ∀ i, 0 ≤ f i ∧ f i ≤ 1000000000) (hs : v.s.size ≤ 1000000000) :
    Calls Try.prog 62 #[.pointer (some ⟨g, 0, none⟩), .agg v.cells] w fun e w' => e = .returned (.bool true) ∧ BoardP w' g (putB f v) ∧ Chg (· = g) w w' := by
  have hbd := vRight_bd hR
  obtain ⟨k, er, b, c, fi, s⟩ := v
  have C := right_v ⟨k, er, b, c, fi, s⟩
  rw [hR] at C
  simp only at hbd
  obtain ⟨k1, k3, e0, e16⟩ := hbd
  obtain ⟨k, rfl⟩ : ∃ n : Nat, k = n := ⟨k.toNat, by omega⟩
  obtain ⟨er, rfl⟩ : ∃ n : Nat, er = n := ⟨er.toNat, by omega⟩
  clear hR
  unfold BoardP at h
  have hlt := h.lt
  replace C := Lib.hid C
  go_enter Try.func62, Try.ntmps62
  go_wp2_with (go_at_call 47; refine (C.out _).mono ?_; rintro e w1 ⟨rfl, hb1⟩)
  have hB := (Blk.new w 58 #[.int .i64 k, .int .i64 er, .int .i64 b, .int .u64 c, .bool fi, .string s]).below hb1 (by simp)
  have hrow := (h.alloc (.cells #[.int .i64 k, .int .i64 er, .int .i64 b, .int .u64 c, .bool fi, .string s] 58)).of_block (hb1.block g (by simp; omega))
  have hbx : Below w.heap.size w w1 := (by repeat (first | exact Below.refl _ _ | assumption | refine below_call2 (by assumption) ?_ (by first | omega | (simp; done) | (simp; omega) | (simp [World.setCell]; omega)) | refine below_drewN ?_ _ | refine Below.drew ?_ | refine Below.alloc ?_ (by first | omega | (simp; done) | (simp; omega) | (simp [World.setCell]; omega)) _ | refine Below.setCell ?_ (by first | omega | (simp; done) | (simp; omega) | (simp [World.setCell]; omega)) _))
  have hz1 := hb1.size
  rw [World.size_alloc] at hz1
  clear hb1 C h
  have hne : g ≠ w.heap.size := by omega
  have hki : (k : Int) < 4 := by omega
  have hei : (er : Int) < 17 := by omega
  have hfb : ∀ i, 0 ≤ f i ∧ f i ≤ 1000000000 := hf
  have hch : Chg (· = g) w w1 := Chg.of_below hbx
  have hsz : (0 : Int) ≤ (s.size : Int) := by omega
  have hs' : s.size ≤ 1000000000 := hs
  have hsz2 : (s.size : Int) ≤ 1000000000 := by omega
  clear hbx
  obtain ⟨f1, hf1⟩ : ∃ f', f' = bump f (k) (1) := ⟨_, rfl⟩
  have r1 := hrow.cell (i := k) (by omega)
  have q1 := hrow.frozen (k)
  obtain ⟨x1, hx1⟩ : ∃ x, f (k) = x := ⟨_, rfl⟩
  rw [hx1] at r1
  obtain ⟨bx1, by1⟩ : 0 ≤ x1 ∧ x1 ≤ 1000000000 := by have := hfb (k); omega
  have hrow' : ((w1.setCell ⟨g, k, none⟩ (.int .i64 (x1 + 1))).drew).rowIs g 77 23 (fun i => .int .i64 (f1 i)) := by rw [hf1]; exact row_bump hrow (k) (1) x1 hx1
  have hB' : Blk ((w1.setCell ⟨g, k, none⟩ (.int .i64 (x1 + 1))).drew) w.heap.size _ _ := hB.far (Ne.symm hne) _
  have hch' : Chg (· = g) w ((w1.setCell ⟨g, k, none⟩ (.int .i64 (x1 + 1))).drew) := (hch.setCell (p := ⟨g, k, none⟩) (fun _ => rfl) _).drew
  have hfb' := bump_bd hfb (k) (1) (by omega)
  rw [← hf1] at hfb'
  have v0 := hB.cell 0
  have v1 := hB.cell 1
  have v4 := hB.cell 4
  have v5 := hB.cell 5
  simp at v0 v1 v4 v5
  replace hx1 := Lib.hid hx1
  replace hf1 := Lib.hid hf1
  clear hrow hB hch hfb
  go_region
  go_wp2_with fail
  clear r1 q1 v0 v1 v4 v5 hx1 bx1 by1
  generalize ((w1.setCell ⟨g, k, none⟩ (.int .i64 (x1 + 1))).drew) = w2 at *
  have hrow := hrow'
  have hB := hB'
  have hch := hch'
  have hfb := hfb'
  clear hrow' hB' hch' hfb'
  obtain ⟨f2, hf2⟩ : ∃ f', f' = bump f1 (4 + er) (1) := ⟨_, rfl⟩
  have r2 := hrow.cell (i := 4 + er) (by omega)
  have q2 := hrow.frozen (4 + er)
  obtain ⟨x2, hx2⟩ : ∃ x, f1 (4 + er) = x := ⟨_, rfl⟩
  rw [hx2] at r2
  obtain ⟨bx2, by2⟩ : 0 ≤ x2 ∧ x2 ≤ 1000000001 := by have := hfb (4 + er); omega
  have hrow' : ((w2.setCell ⟨g, 4 + er, none⟩ (.int .i64 (x2 + 1))).drew).rowIs g 77 23 (fun i => .int .i64 (f2 i)) := by rw [hf2]; exact row_bump hrow (4 + er) (1) x2 hx2
  have hB' : Blk ((w2.setCell ⟨g, 4 + er, none⟩ (.int .i64 (x2 + 1))).drew) w.heap.size _ _ := hB.far (Ne.symm hne) _
  have hch' : Chg (· = g) w ((w2.setCell ⟨g, 4 + er, none⟩ (.int .i64 (x2 + 1))).drew) := (hch.setCell (p := ⟨g, 4 + er, none⟩) (fun _ => rfl) _).drew
  have hfb' := bump_bd hfb (4 + er) (1) (by omega)
  rw [← hf2] at hfb'
  have v0 := hB.cell 0
  have v1 := hB.cell 1
  have v4 := hB.cell 4
  have v5 := hB.cell 5
  simp at v0 v1 v4 v5
  replace hx2 := Lib.hid hx2
  replace hf2 := Lib.hid hf2
  clear hrow hB hch hfb
  go_region
  go_wp2_with fail
  clear r2 q2 v0 v1 v4 v5 hx2 bx2 by2
  generalize ((w2.setCell ⟨g, 4 + er, none⟩ (.int .i64 (x2 + 1))).drew) = w3 at *
  have hrow := hrow'
  have hB := hB'
  have hch := hch'
  have hfb := hfb'
  clear hrow' hB' hch' hfb'
  obtain ⟨f3, hf3⟩ : ∃ f', f' = bump f2 (22) ((s.size : Int)) := ⟨_, rfl⟩
  have r3 := hrow.cell (i := 22) (by omega)
  have q3 := hrow.frozen (22)
  obtain ⟨x3, hx3⟩ : ∃ x, f2 (22) = x := ⟨_, rfl⟩
  rw [hx3] at r3
  obtain ⟨bx3, by3⟩ : 0 ≤ x3 ∧ x3 ≤ 1000000002 := by have := hfb (22); omega
  have hrow' : ((w3.setCell ⟨g, 22, none⟩ (.int .i64 (x3 + (s.size : Int)))).drew).rowIs g 77 23 (fun i => .int .i64 (f3 i)) := by rw [hf3]; exact row_bump hrow (22) ((s.size : Int)) x3 hx3
  have hB' : Blk ((w3.setCell ⟨g, 22, none⟩ (.int .i64 (x3 + (s.size : Int)))).drew) w.heap.size _ _ := hB.far (Ne.symm hne) _
  have hch' : Chg (· = g) w ((w3.setCell ⟨g, 22, none⟩ (.int .i64 (x3 + (s.size : Int)))).drew) := (hch.setCell (p := ⟨g, 22, none⟩) (fun _ => rfl) _).drew
  have hfb' := bump_bd hfb (22) ((s.size : Int)) (by omega)
  rw [← hf3] at hfb'
  have v0 := hB.cell 0
  have v1 := hB.cell 1
  have v4 := hB.cell 4
  have v5 := hB.cell 5
  simp at v0 v1 v4 v5
  replace hx3 := Lib.hid hx3
  replace hf3 := Lib.hid hf3
  clear hrow hB hch hfb
  go_region
  clear r3 q3 v0 v1 v4 v5 hx3 bx3 by3
  generalize ((w3.setCell ⟨g, 22, none⟩ (.int .i64 (x3 + (s.size : Int)))).drew) = w4 at *
  have hrow := hrow'
  have hB := hB'
  have hch := hch'
  have hfb := hfb'
  clear hrow' hB' hch' hfb'
  have v4 := hB.cell 4
  simp at v4
  cases fi
  · go_wp2_with fail
    go_ret
    refine ⟨rfl, ?_, hch⟩
    have e : f3 = putB f ⟨k, er, b, c, false, s⟩ := by rw [hf3.out, hf2.out, hf1.out]; rfl
    rw [← e]; exact hrow
  · have r21 := hrow.cell (i := 21) (by omega)
    have q21 := hrow.frozen 21
    obtain ⟨x4, hx4⟩ : ∃ x, f3 21 = x := ⟨_, rfl⟩
    rw [hx4] at r21
    obtain ⟨bx4, by4⟩ : 0 ≤ x4 ∧ x4 ≤ 3000000000 := by have := hfb 21; omega
    have hrow' : ((w4.setCell ⟨g, 21, none⟩ (.int .i64 (x4 + 1)))).rowIs g 77 23 (fun i => .int .i64 (bump f3 21 1 i)) := row_bump hrow 21 1 x4 hx4
    have hch' : Chg (· = g) w ((w4.setCell ⟨g, 21, none⟩ (.int .i64 (x4 + 1)))) := hch.setCell (p := ⟨g, 21, none⟩) (fun _ => rfl) _
    replace hx4 := Lib.hid hx4
    clear hrow hch hfb hB
    go_wp2_with fail
    go_ret
    refine ⟨rfl, ?_, hch'⟩
    have e : bump f3 21 1 = putB f ⟨k, er, b, c, true, s⟩ := by rw [hf3.out, hf2.out, hf1.out]; rfl
    rw [← e]; exact hrow'

theorem put_any (g : Nat) (f : Nat → Int) (v : Vd) (w : World) (h : BoardP w g f) (hf : ∀ i, 0 ≤ f i ∧ f i ≤ 1000000000) (hs : v.s.size ≤ 1000000000) :
    Calls Try.prog 62 #[.pointer (some ⟨g, 0, none⟩), .agg v.cells] w fun e w' => e = .returned (.bool (vRight v)) ∧ BoardP w' g (if vRight v then putB f v else f) ∧ Chg (· = g) w w' := by
  rcases hR : vRight v with _ | _
  · refine (put_no g v w hR).mono ?_
    rintro e w' ⟨rfl, hb⟩
    exact ⟨rfl, h.of_block (hb.block g h.lt), Chg.of_below hb⟩
  · exact put_yes g f v w h hR hf hs

theorem kind_any (g : Nat) (f : Nat → Int) (k : Int) (w : World) (h : BoardP w g f) :
    Calls Try.prog 53 #[.pointer (some ⟨g, 0, none⟩), .int .i64 k] w fun e w' => e = .returned (.int .i64 (if 0 ≤ k ∧ k < 4 then f k.toNat else 0)) ∧ w = w' := by
  by_cases hk : 0 ≤ k ∧ k < 4
  · rw [if_pos hk]
    obtain ⟨k, rfl⟩ : ∃ n : Nat, k = n := ⟨k.toNat, by omega⟩
    have r := h.cell (i := k) (by omega)
    have hk4 : (k : Int) < 4 := by omega
    rw [show ((k : Nat) : Int).toNat = k by omega]
    obtain ⟨x, hx⟩ : ∃ x, f k = x := ⟨_, rfl⟩
    rw [hx] at r ⊢
    clear hx hk
    go_enter Try.func53, Try.ntmps53
    go_wp2
    go_ret
    exact ⟨rfl, rfl⟩
  · rw [if_neg hk]
    by_cases h0 : k < 0
    · go_enter Try.func53, Try.ntmps53
      go_wp2
      go_ret
      exact ⟨rfl, rfl⟩
    · have h4 : 4 ≤ k := by omega
      clear hk
      go_enter Try.func53, Try.ntmps53
      go_wp2
      go_ret
      exact ⟨rfl, rfl⟩
theorem known_yes (e : Int) (w : World) (h0 : 0 < e) (h1 : e ≤ 16) : Calls Try.prog 105 #[.int .i64 e] w fun x w' => x = .returned (.bool true) ∧ w = w' := by
  go_enter Try.func105, Try.ntmps105
  go_wp2
  go_ret
  exact ⟨rfl, rfl⟩
theorem known_no (e : Int) (w : World) (h0 : ¬ (0 < e ∧ e ≤ 16)) : Calls Try.prog 105 #[.int .i64 e] w fun x w' => x = .returned (.bool false) ∧ w = w' := by
  by_cases h : 0 < e
  · have h1 : 16 < e := by omega
    have h2 : ¬ e ≤ 16 := by omega
    clear h0
    go_enter Try.func105, Try.ntmps105
    go_wp2
    go_ret
    exact ⟨by first | rfl | (simp [h2]), rfl⟩
  · clear h0
    go_enter Try.func105, Try.ntmps105
    go_wp2
    go_ret
    exact ⟨rfl, rfl⟩
theorem reason_any (g : Nat) (f : Nat → Int) (k : Int) (w : World) (h : BoardP w g f) :
    Calls Try.prog 55 #[.pointer (some ⟨g, 0, none⟩), .int .i64 k] w fun e w' => e = .returned (.int .i64 (if 0 ≤ k ∧ k ≤ 16 then f (4 + k.toNat) else 0)) ∧ w = w' := by
  by_cases hk : 0 ≤ k ∧ k ≤ 16
  · rw [if_pos hk]
    obtain ⟨k, rfl⟩ : ∃ n : Nat, k = n := ⟨k.toNat, by omega⟩
    have r := h.cell (i := 4 + k) (by omega)
    have hk4 : (k : Int) ≤ 16 := by omega
    have hk5 : (k : Int) < 17 := by omega
    rw [show ((k : Nat) : Int).toNat = k by omega]
    obtain ⟨x, hx⟩ : ∃ x, f (4 + k) = x := ⟨_, rfl⟩
    rw [hx] at r ⊢
    have C := known_yes k
    replace C := Lib.hid C
    by_cases hz : (k : Int) = 0
    · have b0 : ((k : Int) != 0) = false := by simp [hz]
      clear hx hk hz
      go_enter Try.func55, Try.ntmps55
      go_wp2_with fail
      go_ret
      exact ⟨rfl, rfl⟩
    · have b0 : ((k : Int) != 0) = true := by simp; omega
      replace hz := Lib.hid hz
      clear hx hk
      go_enter Try.func55, Try.ntmps55
      go_wp2_with (go_at_call 105; refine (C.out _ (by have := hz.out; omega) hk4).mono ?_; rintro e w' ⟨rfl, rfl⟩)
      go_ret
      exact ⟨rfl, rfl⟩
  · rw [if_neg hk]
    have b0 : (k != 0) = true := by simp; omega
    have C := fun W => known_no k W (by omega)
    replace C := Lib.hid C
    clear hk
    go_enter Try.func55, Try.ntmps55
    go_wp2_with (go_at_call 105; refine (C.out _).mono ?_; rintro e w' ⟨rfl, rfl⟩)
    go_ret
    exact ⟨rfl, rfl⟩
theorem firsts_any (g : Nat) (f : Nat → Int) (w : World) (h : BoardP w g f) :
    Calls Try.prog 57 #[.pointer (some ⟨g, 0, none⟩)] w fun e w' => e = .returned (.int .i64 (f 21)) ∧ w = w' := by
  have r := h.cell (i := 21) (by omega)
  go_enter Try.func57, Try.ntmps57
  go_wp2
  go_ret
  exact ⟨rfl, rfl⟩
theorem bytes_any (g : Nat) (f : Nat → Int) (w : World) (h : BoardP w g f) :
    Calls Try.prog 58 #[.pointer (some ⟨g, 0, none⟩)] w fun e w' => e = .returned (.int .i64 (f 22)) ∧ w = w' := by
  have r := h.cell (i := 22) (by omega)
  go_enter Try.func58, Try.ntmps58
  go_wp2
  go_ret
  exact ⟨rfl, rfl⟩
end Go.Proofs.Ytdkcjfcjckpjcaa
