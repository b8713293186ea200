/- stack: what a stack is in memory; contracts of Free, Has, Pop, Push. -/
import Derived.Test.YtdkcjfcjckpjcaaSlices
namespace Go.Proofs.Ytdkcjfcjckpjcaa
open Go Go.RowKit Go.Deep

def inB (l : List Int) (i : Int) : Bool := decide (i ∈ l)
theorem inB_no {l : List Int} {i : Int} (h : i ∉ l) : inB l i = false := by simp [inB, h]
theorem inB_yes {l : List Int} {i : Int} (h : i ∈ l) : inB l i = true := by simp [inB, h]

def StackP (w : World) (g N : Nat) (l : List Int) (F : Nat → Prop) : Prop :=
  ∃ vf gi, Blk w g 129 #[.bool true, vf, .slice (some ⟨gi, 0, none⟩) N N] ∧ w.ownsRow 0 3 1 vf l.length (l.reverse.map (.int .i64)) ∧
    w.rowIs gi 4 N (fun i => .bool (inB l i)) ∧ (∀ b, F b ↔ b = g ∨ b = gi ∨ vf.ownBlock = some b) ∧ l.Nodup ∧ (∀ x ∈ l, 0 ≤ x ∧ x < N) ∧ N ≤ 4096

theorem StackP.chg {w w' : World} {g N : Nat} {l : List Int} {F G : Nat → Prop} (h : StackP w g N l F) (k : Chg G w w') (hd : ∀ b, F b → ¬ G b) : StackP w' g N l F := by
  obtain ⟨vf, gi, h1, h2, h3, h4, h5⟩ := h
  exact ⟨vf, gi, h1.chg k (hd _ ((h4 _).2 (.inl rfl))), ownsRow_chg h2 k (fun b hb => hd _ ((h4 _).2 (.inr (.inr hb)))), rowIs_chg h3 k (hd _ ((h4 _).2 (.inr (.inl rfl)))), h4, h5⟩
theorem StackP.lt {w : World} {g N : Nat} {l : List Int} {F : Nat → Prop} (h : StackP w g N l F) {b : Nat} (hb : F b) : b < w.heap.size := by
  obtain ⟨vf, gi, h1, h2, h3, h4, _⟩ := h
  rcases (h4 b).1 hb with rfl | rfl | hb
  · exact h1.lt
  · exact h3.lt
  · exact (h2.lt b hb).2

theorem free_any (g N : Nat) (l : List Int) (F : Nat → Prop) (w : World) (h : StackP w g N l F) :
    Calls Try.prog 25 #[.pointer (some ⟨g, 0, none⟩)] w fun e w' => e = .returned (.int .i64 l.length) ∧ w = w' := by
  obtain ⟨vf, gi, h1, h2, h3, h4, h5, h6, h7⟩ := h
  have c1 := h1.cell 1
  simp at c1
  have hv : ∃ A c, vf = .slice A l.length c := by
    rcases h2.2 with ⟨rfl, h0⟩ | ⟨g', cap, cur, rfl, _⟩
    · exact ⟨none, 0, by rw [h0]⟩
    · exact ⟨_, _, rfl⟩
  obtain ⟨A, c, rfl⟩ := hv
  go_enter Try.func25, Try.ntmps25
  go_wp2_with fail
  go_ret
  exact ⟨rfl, rfl⟩

theorem has_stack (g N : Nat) (l : List Int) (F : Nat → Prop) (i : Int) (w : World) (h : StackP w g N l F) :
    Calls Try.prog 26 #[.pointer (some ⟨g, 0, none⟩), .int .i64 i] w fun e w' => e = .returned (.bool (inB l i)) ∧ w = w' := by
  obtain ⟨vf, gi, h1, h2, h3, h4, h5, h6, h7⟩ := h
  have c0 := h1.cell 0
  have c2 := h1.cell 2
  simp at c0 c2
  by_cases hi : 0 ≤ i
  · by_cases hN : i < N
    · obtain ⟨k, rfl⟩ : ∃ k : Nat, i = k := ⟨i.toNat, by omega⟩
      have hk : k < N := by omega
      have cb := h3.cell hk
      clear h1 h2 h3 h5 h6
      go_enter Try.func26, Try.ntmps26
      go_wp2
      go_ret
      exact ⟨rfl, rfl⟩
    · have e : inB l i = false := by
        refine inB_no ?_
        intro hm; have := h6 i hm; omega
      replace e := Lib.hid e
      clear h1 h2 h3 h5 h6
      go_enter Try.func26, Try.ntmps26
      go_wp2
      go_ret
      exact ⟨by rw [e.out]; rfl, rfl⟩
  · have e : inB l i = false := by
      refine inB_no ?_
      intro hm; have := h6 i hm; omega
    replace e := Lib.hid e
    clear h1 h2 h3 h5 h6
    go_enter Try.func26, Try.ntmps26
    go_wp2
    go_ret
    exact ⟨by rw [e.out]; rfl, rfl⟩

theorem pop_any (g N : Nat) (l : List Int) (F : Nat → Prop) (w : World) (h : StackP w g N l F) :
    Calls Try.prog 21 #[.pointer (some ⟨g, 0, none⟩)] w fun e w' => e = .returned (.tuple #[.int .i64 (l.headD 0), .bool (!l.isEmpty)]) ∧ StackP w' g N l.tail F ∧ Chg F w w' := by
  have H := h
  obtain ⟨vf, gi, h1, h2, h3, h4, h5, h6, h7⟩ := h
  cases l with
  | nil =>
    go_enter Try.func21, Try.ntmps21
    go_wp2_with (go_at_call 25; refine (free_any g N [] F _ H).mono ?_; rintro e w1 ⟨rfl, rfl⟩)
    go_ret2
    exact ⟨rfl, H, Chg.refl _ _⟩
  | cons x l =>
    obtain ⟨gf, cap, f, rfl, hb, hnc, hcap, hrow, hf⟩ := row_of_own h2 (by simp)
    have c1 := h1.cell 1
    have c2 := h1.cell 2
    simp at c1 c2
    have hx := h6 x (by simp)
    obtain ⟨k, hk⟩ : ∃ k : Nat, x = k := ⟨x.toNat, by omega⟩
    have hkN : k < N := by omega
    have cx : w.cell? ⟨gf, l.length, none⟩ = some (.int .i64 k) := by
      rw [hrow.cell (by simp at hnc; omega), hf l.length (.int .i64 k) (by simp [hk])]
    have cb := h3.cell hkN
    have fb := h3.frozen k
    have f1 := h1.frozen 1
    have ne1 : g ≠ gi := by
      obtain ⟨c, hc, _⟩ := h3
      exact Blk.ne_ (t' := 4) h1 hc (by decide)
    replace hk := Lib.hid hk
    unfold maxLen at hcap
    simp only [List.length_cons] at hnc
    have hl : l.length + 1 ≤ 9223372036854775807 := by omega
    go_enter Try.func21, Try.ntmps21
    go_wp2_with (go_at_call 25; refine (free_any g N (x :: l) F _ H).mono ?_; rintro e w1 ⟨rfl, rfl⟩)
    go_ret2
    have ngf : gf ≠ g := fun e => own_blk_ne h2 h1 (by decide) (by rw [e]; rfl)
    have ngi : gf ≠ gi := by
      obtain ⟨c, hc, _⟩ := h3
      exact fun e => own_blk_ne h2 hc (by decide) (by rw [e]; rfl)
    have hx0 := hk.out
    have hown : w.ownsRow 0 3 1 (.slice (some ⟨gf, 0, none⟩) l.length cap) l.length (l.reverse.map (.int .i64)) := by
      refine ownsRow_pop (last := [.int .i64 x]) (by simp) ?_
      simpa using h2
    refine ⟨by simp [hx0], ⟨.slice (some ⟨gf, 0, none⟩) l.length cap, gi, ?_, ?_, ?_, ?_, (List.nodup_cons.1 h5).2, fun y hy => h6 y (by simp only [List.tail_cons] at hy; simp [hy]), h7⟩, ?_⟩
    · exact (h1.set_ 1 _).far ne1 _
    · exact ownsRow_setCell_other (ownsRow_setCell_other hown (by simpa [Value.ownBlock] using ngf) _) (by simpa [Value.ownBlock] using ngi) _
    · refine ((h3.setOther (Ne.symm ne1) _).set k _).congr (fun i hi => ?_)
      have hn := (List.nodup_cons.1 h5).1
      rw [hx0] at hn
      by_cases e : i = k
      · subst e
        rw [if_pos rfl, List.tail_cons, inB_no hn]
      · rw [if_neg e, List.tail_cons, hx0]
        have : (i : Int) ≠ (k : Int) := by omega
        simp [inB, this]
    · exact h4
    · have hFg : F g := (h4 g).2 (.inl rfl)
      have hFi : F gi := (h4 gi).2 (.inr (.inl rfl))
      exact ((Chg.refl _ _).setCell (fun _ => hFg) _).setCell (fun _ => hFi) _

theorem nodup_len (l : List Int) (N : Nat) (h : l.Nodup) (h6 : ∀ x ∈ l, 0 ≤ x ∧ x < N) : l.length ≤ N := by
  have h3 : l ⊆ (List.range N).map (fun n : Nat => (n : Int)) := by
    intro x hx
    have := h6 x hx
    exact List.mem_map.2 ⟨x.toNat, by simp; omega, by omega⟩
  have := List.Nodup.length_le_of_subset h h3
  simpa using this
theorem push_no (g N : Nat) (l : List Int) (F : Nat → Prop) (i : Int) (w : World) (h : StackP w g N l F) (hi : i < 0 ∨ N ≤ i ∨ i ∈ l) :
    Calls Try.prog 23 #[.pointer (some ⟨g, 0, none⟩), .int .i64 i] w fun e w' => e = .returned (.bool false) ∧ w = w' := by
  obtain ⟨vf, gi, h1, h2, h3, h4, h5, h6, h7⟩ := h
  have c0 := h1.cell 0
  have c2 := h1.cell 2
  simp at c0 c2
  by_cases h0 : 0 ≤ i
  · by_cases hN : i < N
    · have hm : i ∈ l := by
        rcases hi with h | h | h
        · omega
        · omega
        · exact h
      obtain ⟨k, rfl⟩ : ∃ k : Nat, i = k := ⟨i.toNat, by omega⟩
      have hk : k < N := by omega
      have cb := h3.cell hk
      rw [inB_yes hm] at cb
      clear h1 h2 h3 h5 h6 hi hm
      go_enter Try.func23, Try.ntmps23
      go_wp2
      go_ret
      exact ⟨rfl, rfl⟩
    · clear h1 h2 h3 h5 h6 hi
      go_enter Try.func23, Try.ntmps23
      go_wp2
      go_ret
      exact ⟨rfl, rfl⟩
  · clear h1 h2 h3 h5 h6 hi
    go_enter Try.func23, Try.ntmps23
    go_wp2
    go_ret
    exact ⟨rfl, rfl⟩

set_option maxRecDepth 100000 in
theorem push_yes (g N : Nat) (l : List Int) (F : Nat → Prop) (i : Int) (w : World) (h : StackP w g N l F) (h0 : 0 ≤ i) (hN : i < N) (hi : i ∉ l) :
    Calls Try.prog 23 #[.pointer (some ⟨g, 0, none⟩), .int .i64 i] w fun e w' => e = .returned (.bool true) ∧ ∃ F', StackP w' g N (i :: l) F' ∧ Chg F w w' ∧ ∀ b, F' b → F b ∨ w.heap.size ≤ b := by
  obtain ⟨i0, hi0, hz0, hz1, hz2⟩ := info_parts info_int
  obtain ⟨vf, gi, h1, h2, h3, h4, h5, h6, h7⟩ := h
  have c0 := h1.cell 0
  have c1 := h1.cell 1
  have c2 := h1.cell 2
  simp at c0 c1 c2
  obtain ⟨k, rfl⟩ : ∃ k : Nat, i = k := ⟨i.toNat, by omega⟩
  have hk : k < N := by omega
  have cb := h3.cell hk
  rw [inB_no hi] at cb
  have fb := h3.frozen k
  have f1 := h1.frozen 1
  have ne1 : g ≠ gi := by
    obtain ⟨c, hc, _⟩ := h3
    exact Blk.ne_ (t' := 4) h1 hc (by decide)
  have ngf : vf.ownBlock ≠ some g := own_blk_ne h2 h1 (by decide)
  have ngi : vf.ownBlock ≠ some gi := by
    obtain ⟨c, hc, _⟩ := h3
    exact own_blk_ne h2 hc (by decide)
  have hlen : l.length ≤ N := nodup_len l N h5 h6
  have hown1 := (ownsRow_setCell_other (a := ⟨gi, k, none⟩) h2 ngi (.bool true)).alloc (.cells #[.int .i64 k] 3)
  have hB1 : Blk ((w.setCell ⟨gi, k, none⟩ (.bool true)).alloc (.cells #[.int .i64 k] 3)) g 129 _ := (h1.far ne1 _).alloc _
  have hlt := h1.lt
  have hlti := h3.lt
  go_enter Try.func23, Try.ntmps23
  go_wp2_with (first | (at_builtin; refine wpList_append_sl _ rfl (.tmp 28) (.tmp 30) 22 rfl 0 3 i0 _ 1 8 Try.underlying22 hi0 hz0 hz1 hz2 rfl (by decide) vf l.length (l.reverse.map (.int .i64)) rfl hown1 (w.heap.size + 1) (some ⟨w.heap.size, 0, none⟩) 1 1 [.int .i64 k] rfl (reads_lit1 _ _ _ _ _ (by simp) (by simp)) (by simp [Value.oneCell']) (by unfold maxLen; omega) (by omega) (by simp) ?_; intro A1 cp1 w1 hown2 hg1 hat1; have hB2 := hB1.grown hg1 ngf; have c1' := hB2.cell 1; have f1' := hB2.frozen 1; simp at c1') | go_in)
  go_ret
  rw [World.size_alloc] at hat1
  have hsz : (w.setCell ⟨gi, k, none⟩ (.bool true)).heap.size = w.heap.size := by simp [World.setCell]
  rw [hsz] at hat1
  have hnew : ∀ b, (Value.slice A1 (l.length + 1) cp1).ownBlock = some b → vf.ownBlock = some b ∨ w.heap.size ≤ b := by
    intro b hb
    rcases hat1 with e | e
    · exact .inl (e ▸ hb)
    · rw [hb] at e; injection e with e; right; omega
  refine ⟨rfl, fun b => b = g ∨ b = gi ∨ (Value.slice A1 (l.length + 1) cp1).ownBlock = some b, ⟨_, gi, ?_, ?_, ?_, fun b => Iff.rfl, ?_, ?_, h7⟩, ?_, ?_⟩
  · exact hB2.set_ 1 _
  · have hn : (Value.slice A1 (l.length + 1) cp1).ownBlock ≠ some g := by
      intro e
      rcases hnew g e with h | h
      · exact ngf h
      · omega
    have := ownsRow_setCell_other (a := ⟨g, 1, none⟩) hown2 hn (Value.slice A1 (l.length + 1) cp1)
    simpa using this
  · have hr1 : w1.rowIs gi 4 N _ := ((h3.set k (.bool true)).alloc _).of_block (hg1.block gi (by simp; omega) (fun e => ngi e.symm))
    refine (hr1.setOther (Ne.symm ne1) _).congr (fun j hj => ?_)
    by_cases e : j = k
    · subst e
      rw [if_pos rfl, inB_yes (by simp)]
    · rw [if_neg e]
      have : (j : Int) ≠ (k : Int) := by omega
      simp [inB, this]
  · exact List.nodup_cons.2 ⟨hi, h5⟩
  · intro x hx
    rcases List.mem_cons.1 hx with rfl | hx
    · omega
    · exact h6 x hx
  · have hFg : F g := (h4 g).2 (.inl rfl)
    have hFi : F gi := (h4 gi).2 (.inr (.inl rfl))
    have c1 : Chg F w ((w.setCell ⟨gi, k, none⟩ (.bool true)).alloc (.cells #[.int .i64 k] 3)) := ((Chg.refl F w).setCell (fun _ => hFi) _).alloc _
    exact (c1.grown hg1 (fun j hj _ => (h4 j).2 (.inr (.inr hj)))).setCell (fun _ => hFg) _
  · intro b hb
    rcases hb with rfl | rfl | hb
    · exact .inl ((h4 _).2 (.inl rfl))
    · exact .inl ((h4 _).2 (.inr (.inl rfl)))
    · rcases hnew b hb with h | h
      · exact .inl ((h4 _).2 (.inr (.inr h)))
      · exact .inr h

theorem list_any (g N : Nat) (l : List Int) (F : Nat → Prop) (w : World) (h : StackP w g N l F) :
    Calls Try.prog 29 #[.pointer (some ⟨g, 0, none⟩)] w fun e w' => ∃ A c, e = .returned (.slice A l.length c) ∧ Reads w' w'.heap.size 1 A l.length (l.map (.int .i64)) ∧ Below w.heap.size w w' := by
  obtain ⟨vf, gi, h1, h2, h3, h4, h5, h6, h7⟩ := h
  have hlen := nodup_len l N h5 h6
  have c1 := h1.cell 1
  simp at c1
  obtain ⟨A, c, rfl⟩ := slice_of_own _ h2
  have hR := Reads.of_own h2
  have C := clone_int A c l.reverse w (by simpa using hR) (by simp; omega)
  rw [List.length_reverse] at C
  replace C := Lib.hid C
  clear h1 h3 h5 h6
  go_enter Try.func29, Try.ntmps29
  go_wp2_with fail
  refine C.out.mono ?_
  rintro e w1 ⟨v, rfl, hown, hb⟩
  obtain ⟨A1, cp1, rfl⟩ := slice_of_own _ hown
  go_wp2_with fail
  refine (reverse_own A1 _ _ cp1 l.reverse w1 hown (by omega)).mono ?_
  rintro e w2 ⟨rfl, hown2, hch⟩
  go_wp2_with fail
  go_ret
  rw [List.reverse_reverse] at hown2
  refine ⟨A1, cp1, rfl, Reads.of_own hown2, hb.trans (hch.below (fun b hb2 e => ?_) hb.size)⟩
  have := (hown.lt b e).1
  omega
end Go.Proofs.Ytdkcjfcjckpjcaa
