/- slices.Clone and slices.Reverse at []int. stack: what a stack is in memory; contracts of Free, Has, Pop, Push. stack.New; the reference's stack. stack: Push, whatever is pushed. -/
import Derived.Test.YtohapcacckapoaaGreatJ5
import Derived.Test.YtohapcacckapoaaGreatJ7
import Derived.WalkSpells
namespace Go.Proofs.YtohapcacckapoaaGreat
open Go Go.RowKit Go.Deep
def revF (n k : Nat) (f : Nat → Value) (p : Nat) : Value := if p < n ∧ (p < k ∨ n - 1 - k < p) then f (n - 1 - p) else f p
def inB (l : List Int) (i : Int) : Bool := decide (i ∈ l)
theorem inB_no {l : List Int} {i : Int} (h : i ∉ l) : inB l i = false := by simp [inB, h]
theorem inB_yes {l : List Int} {i : Int} (h : i ∈ l) : inB l i = true := by simp [inB, h]
def StackP (w : World) (g N : Nat) (l : List Int) (F : Nat → Prop) : Prop :=
 ∃ vf gi, Blk w g 242 #[.bool true, vf, .slice (some ⟨gi, 0, none⟩) N N] ∧ w.ownsRow 0 3 1 vf l.length (l.reverse.map (.int .i64)) ∧
  w.rowIs gi 4 N (fun i => .bool (inB l i)) ∧ (∀ b, F b ↔ b = g ∨ b = gi ∨ vf.ownBlock = some b) ∧ l.Nodup ∧ (∀ x ∈ l, 0 ≤ x ∧ x < N) ∧ N ≤ 4096
theorem StackP.chg {w w' : World} {g N : Nat} {l : List Int} {F G : Nat → Prop} (h : StackP w g N l F) (k : Chg G w w') (hd : ∀ b, F b → ¬ G b) : StackP w' g N l F := by
 obtain ⟨vf, gi, h1, h2, h3, h4, h5⟩ := h
 exact ⟨vf, gi, h1.chg k (hd _ ((h4 _).2 (.inl rfl))), ownsRow_chg h2 k (fun b hb => hd _ ((h4 _).2 (.inr (.inr hb)))), rowIs_chg h3 k (hd _ ((h4 _).2 (.inr (.inl rfl)))), h4, h5⟩
theorem StackP.lt {w : World} {g N : Nat} {l : List Int} {F : Nat → Prop} (h : StackP w g N l F) {b : Nat} (hb : F b) : b < w.heap.size := by
 obtain ⟨vf, gi, h1, h2, h3, h4, _⟩ := h
 rcases (h4 b).1 hb with rfl | rfl | hb
 · exact h1.lt
 · exact h3.lt
 · exact (h2.lt b hb).2
theorem free_any (g N : Nat) (l : List Int) (F : Nat → Prop) (w : World) (h : StackP w g N l F) :
  Calls Tryz.prog 147 #[.pointer (some ⟨g, 0, none⟩)] w fun e w' => e = .returned (.int .i64 l.length) ∧ w = w' := by
 obtain ⟨vf, gi, h1, h2, h3, h4, h5, h6, h7⟩ := h
 have c1 := h1.cell 1
 simp at c1
 have hv : ∃ A c, vf = .slice A l.length c := by
  rcases h2.2 with ⟨rfl, h0⟩ | ⟨g', cap, cur, rfl, _⟩
  · exact ⟨none, 0, by rw [h0]⟩
  · exact ⟨_, _, rfl⟩
 obtain ⟨A, c, rfl⟩ := hv
 go_enter Tryz.func147, Tryz.ntmps147
 go_wp2_with fail
 go_ret
 exact ⟨rfl, rfl⟩
theorem nodup_lenS (l : List Int) (N : Nat) (h : l.Nodup) (h6 : ∀ x ∈ l, 0 ≤ x ∧ x < N) : l.length ≤ N := by
 have h3 : l ⊆ (List.range N).map (fun n : Nat => (n : Int)) := by
  intro x hx
  have := h6 x hx
  exact List.mem_map.2 ⟨x.toNat, by simp; omega, by omega⟩
 have := List.Nodup.length_le_of_subset h h3
 simpa using this
theorem push_no (g N : Nat) (l : List Int) (F : Nat → Prop) (i : Int) (w : World) (h : StackP w g N l F) (hi : i < 0 ∨ N ≤ i ∨ i ∈ l) :
  Calls Tryz.prog 136 #[.pointer (some ⟨g, 0, none⟩), .int .i64 i] w fun e w' => e = .returned (.bool false) ∧ w = w' := by
 obtain ⟨vf, gi, h1, h2, h3, h4, h5, h6, h7⟩ := h
 have c0 := h1.cell 0
 have c2 := h1.cell 2
 simp at c0 c2
 by_cases h0 : 0 ≤ i
 ·
  by_cases hN : i < N
  ·
   have hm : i ∈ l := by
    rcases hi with h | h | h
    · omega
    · omega
    · exact h
   obtain ⟨k, rfl⟩ : ∃ k : Nat, i = k := ⟨i.toNat, by omega⟩
   have hk : k < N := by omega
   have cb := h3.cell hk
   rw [inB_yes hm] at cb
   clear h1 h2 h3 h5 h6 hi hm
   go_enter Tryz.func136, Tryz.ntmps136
   go_wp2
   go_ret
   exact ⟨rfl, rfl⟩
  ·
   clear h1 h2 h3 h5 h6 hi
   go_enter Tryz.func136, Tryz.ntmps136
   go_wp2
   go_ret
   exact ⟨rfl, rfl⟩
 ·
  clear h1 h2 h3 h5 h6 hi
  go_enter Tryz.func136, Tryz.ntmps136
  go_wp2
  go_ret
  exact ⟨rfl, rfl⟩
set_option maxRecDepth 100000 in
theorem push_yes (g N : Nat) (l : List Int) (F : Nat → Prop) (i : Int) (w : World) (h : StackP w g N l F) (h0 : 0 ≤ i) (hN : i < N) (hi : i ∉ l) :
  Calls Tryz.prog 136 #[.pointer (some ⟨g, 0, none⟩), .int .i64 i] w fun e w' => e = .returned (.bool true) ∧ ∃ F', StackP w' g N (i :: l) F' ∧ Chg F w w' ∧ ∀ b, F' b → F b ∨ w.heap.size ≤ b := by
 obtain ⟨i0, hi0, hz0, hz1, hz2⟩ := info_parts info_int
 obtain ⟨vf, gi, h1, h2, h3, h4, h5, h6, h7⟩ := h
 have c0 := h1.cell 0
 have c1 := h1.cell 1
 have c2 := h1.cell 2
 simp at c0 c1 c2
 obtain ⟨k, rfl⟩ : ∃ k : Nat, i = k := ⟨i.toNat, by omega⟩
 have hk : k < N := by omega
 have cb := h3.cell hk
 rw [inB_no hi] at cb
 have fb := h3.frozen k
 have f1 := h1.frozen 1
 have ne1 : g ≠ gi := by
  obtain ⟨c, hc, _⟩ := h3
  exact Blk.ne_ (t' := 4) h1 hc (by decide)
 have ngf : vf.ownBlock ≠ some g := own_blk_ne h2 h1 (by decide)
 have ngi : vf.ownBlock ≠ some gi := by
  obtain ⟨c, hc, _⟩ := h3
  exact own_blk_ne h2 hc (by decide)
 have hlen : l.length ≤ N := nodup_lenS l N h5 h6
 have hown1 := (ownsRow_setCell_other (a := ⟨gi, k, none⟩) h2 ngi (.bool true)).alloc (.cells #[.int .i64 k] 3)
 have hB1 : Blk ((w.setCell ⟨gi, k, none⟩ (.bool true)).alloc (.cells #[.int .i64 k] 3)) g 242 _ := (h1.far ne1 _).alloc _
 have hlt := h1.lt
 have hlti := h3.lt
 go_enter Tryz.func136, Tryz.ntmps136
 go_wp2_with (first | (at_builtin; refine wpList_append_sl _ rfl (.tmp 28) (.tmp 30) 51 rfl 0 3 i0 _ 1 8 Tryz.underlying51 hi0 hz0 hz1 hz2 rfl (by decide) vf l.length (l.reverse.map (.int .i64)) rfl hown1 (w.heap.size + 1) (some ⟨w.heap.size, 0, none⟩) 1 1 [.int .i64 k] rfl (reads_lit1 _ _ _ _ _ (by simp) (by simp)) (by simp [Value.oneCell']) (by unfold maxLen; omega) (by omega) (by simp) ?_; intro A1 cp1 w1 hown2 hg1 hat1; have hB2 := hB1.grown hg1 ngf; have c1' := hB2.cell 1; have f1' := hB2.frozen 1; simp at c1') | go_in)
 go_ret
 rw [World.size_alloc] at hat1
 have hsz : (w.setCell ⟨gi, k, none⟩ (.bool true)).heap.size = w.heap.size := by simp [World.setCell]
 rw [hsz] at hat1
 have hnew : ∀ b, (Value.slice A1 (l.length + 1) cp1).ownBlock = some b → vf.ownBlock = some b ∨ w.heap.size ≤ b := by
  intro b hb
  rcases hat1 with e | e
  · exact .inl (e ▸ hb)
  · rw [hb] at e; injection e with e; right; omega
 refine ⟨rfl, fun b => b = g ∨ b = gi ∨ (Value.slice A1 (l.length + 1) cp1).ownBlock = some b, ⟨_, gi, ?_, ?_, ?_, fun b => Iff.rfl, ?_, ?_, h7⟩, ?_, ?_⟩
 · exact hB2.set_ 1 _
 ·
  have hn : (Value.slice A1 (l.length + 1) cp1).ownBlock ≠ some g := by
   intro e
   rcases hnew g e with h | h
   · exact ngf h
   · omega
  have := ownsRow_setCell_other (a := ⟨g, 1, none⟩) hown2 hn (Value.slice A1 (l.length + 1) cp1)
  simpa using this
 ·
  have hr1 : w1.rowIs gi 4 N _ := ((h3.set k (.bool true)).alloc _).of_block (hg1.block gi (by simp; omega) (fun e => ngi e.symm))
  refine (hr1.setOther (Ne.symm ne1) _).congr (fun j hj => ?_)
  by_cases e : j = k
  ·
   subst e
   rw [if_pos rfl, inB_yes (by simp)]
  ·
   rw [if_neg e]
   have : (j : Int) ≠ (k : Int) := by omega
   simp [inB, this]
 · exact List.nodup_cons.2 ⟨hi, h5⟩
 ·
  intro x hx
  rcases List.mem_cons.1 hx with rfl | hx
  · omega
  · exact h6 x hx
 ·
  have hFg : F g := (h4 g).2 (.inl rfl)
  have hFi : F gi := (h4 gi).2 (.inr (.inl rfl))
  have c1 : Chg F w ((w.setCell ⟨gi, k, none⟩ (.bool true)).alloc (.cells #[.int .i64 k] 3)) := ((Chg.refl F w).setCell (fun _ => hFi) _).alloc _
  exact (c1.grown hg1 (fun j hj _ => (h4 j).2 (.inr (.inr hj)))).setCell (fun _ => hFg) _
 ·
  intro b hb
  rcases hb with rfl | rfl | hb
  · exact .inl ((h4 _).2 (.inl rfl))
  · exact .inl ((h4 _).2 (.inr (.inl rfl)))
  ·
   rcases hnew b hb with h | h
   · exact .inl ((h4 _).2 (.inr (.inr h)))
   · exact .inr h
def upto (n k : Nat) : List Int := (List.range (n - k)).map (fun i => ((k + i : Nat) : Int))
theorem upto_self (n : Nat) : upto n n = [] := by simp [upto]
theorem upto_step {n k : Nat} (h : k < n) : upto n k = (k : Int) :: upto n (k + 1) := by
 unfold upto
 rw [show n - k = (n - (k + 1)) + 1 by omega, List.range_succ_eq_map]
 simp only [List.map_cons, List.map_map, Nat.add_zero, List.cons.injEq, true_and]
 refine List.map_congr_left fun i _ => ?_
 simp only [Function.comp]
 omega
theorem mem_upto {n k : Nat} {x : Int} (h : x ∈ upto n k) : k ≤ x ∧ x < n := by
 obtain ⟨i, hi, rfl⟩ := List.mem_map.1 h
 have := List.mem_range.1 hi
 omega
theorem info_bool : (Tryz.prog.info? 4).map (fun i => (i.zero, i.size, i.bytes)) = some (some (.bool false), 1, 1) := by kernel_rfl
set_option maxHeartbeats 400000 in
theorem new_yes (n : Nat) (w : World) (h : n ≤ 4096) :
  Calls Tryz.prog 122 #[.int .i64 n] w fun e w' => ∃ g F, e = .returned (.pointer (some ⟨g, 0, none⟩)) ∧ StackP w' g n (upto n 0) F ∧ Below w.heap.size w w' ∧ ∀ b, F b → w.heap.size ≤ b := by
 have hmk := fun W => run_make_row' (P := Tryz.prog) 240 4 (.bool false) 1 Tryz.underlying240 info_bool rfl .i64 .i64 n (by omega) (by omega) W
 go_enter Tryz.func122, Tryz.ntmps122
 go_wp2_with fail
 clear hmk
 go_loopw [4] (fun i wr => ∃ k F, k ≤ n ∧ i = .int .i64 ((k : Int) - 1) ∧ StackP wr (w.heap.size + 1) n (upto n k) F ∧ Below w.heap.size w wr ∧ ∀ b, F b → w.heap.size ≤ b)
  (fun i _ => (intOf i + 1).toNat)
 case atStart =>
  refine ⟨n, fun b => b = w.heap.size + 1 ∨ b = w.heap.size, Nat.le_refl _, by first | rfl | go_num, ⟨.slice none 0 0, w.heap.size, ?_, ?_, ?_, ?_, ?_, ?_, h⟩, (by repeat (first | exact Below.refl _ _ | assumption | refine below_alloc ?_ _ | refine below_chain (by assumption) ?_ | refine below_call2 (by assumption) ?_ (by first | omega | (simp; done) | (simp; omega) | (simp [World.setCell]; omega)) | refine below_drewN ?_ _ | refine Below.drew ?_ | refine Below.alloc ?_ (by first | omega | (simp; done) | (simp; omega) | (simp [World.setCell]; omega)) _ | refine Below.setCell ?_ (by first | omega | (simp; done) | (simp; omega) | (simp [World.setCell]; omega)) _)), fun b hb => by omega⟩
  · simpa using Blk.new (w.alloc (.cells (madeCells #[.bool false] n) 4)) 242 _
  ·
   rw [upto_self]
   exact World.ownsRow_nil _ _ _ _
  ·
   refine ((World.rowIs_made w (.bool false) n 4).alloc _).congr (fun i hi => ?_)
   rw [upto_self]
   rfl
  ·
   intro b
   simp [Value.ownBlock]
  · rw [upto_self]; exact List.nodup_nil
  · rw [upto_self]; intro x hx; cases hx
 case round =>
  obtain ⟨k, F, hk, rfl, hS, hb, hF⟩ := hrel
  by_cases hz : k = 0
  ·
   subst hz
   have h0 : ¬ (0 ≤ ((0 : Nat) : Int) - 1) := by omega
   go_wp2_with fail
   go_ret
   exact ⟨_, rfl, F, hS, hb, hF⟩
  ·
   obtain ⟨j, rfl⟩ : ∃ j, k = j + 1 := ⟨k - 1, by omega⟩
   clear hz
   have h0 : 0 ≤ (j : Int) := by omega
   have hs := upto_step (show j < n by omega)
   have C := push_yes (w.heap.size + 1) n (upto n (j + 1)) F j wr hS (by omega) (by omega) (fun hm => by have := mem_upto hm; omega)
   rw [← hs] at C
   replace C := Lib.hid C
   clear hs
   go_wp2_with fail
   refine C.out.mono ?_
   rintro e w1 ⟨rfl, F', hS', hch, hF'⟩
   go_wp2_with fail
   go_roundw
   case rel =>
    refine ⟨j, F', by omega, by go_num, hS', below_chg hb hch (fun b hb e => by have := hF b e; omega) hb.size, fun b hb' => ?_⟩
    have := hb.size
    rcases hF' b hb' with h | h
    · exact hF b h
    · omega
   case measure => simp [intOf]
def seqTo (n : Nat) : List Int := (List.range n).map (fun i : Nat => (i : Int))
def pushOk (N : Nat) (l : List Int) (i : Int) : Bool := decide (0 ≤ i) && decide (i < N) && !inB l i
def pushL (N : Nat) (l : List Int) (i : Int) : List Int := if pushOk N l i then i :: l else l
theorem push_any (g N : Nat) (l : List Int) (F : Nat → Prop) (i : Int) (w : World) (h : StackP w g N l F) :
  Calls Tryz.prog 136 #[.pointer (some ⟨g, 0, none⟩), .int .i64 i] w fun e w' => e = .returned (.bool (pushOk N l i)) ∧ ∃ F', StackP w' g N (pushL N l i) F' ∧ Chg F w w' ∧ ∀ b, F' b → F b ∨ w.heap.size ≤ b := by
 by_cases hi : 0 ≤ i ∧ i < N ∧ i ∉ l
 ·
  have e : pushOk N l i = true := by simp [pushOk, hi, inB]
  have e2 : pushL N l i = i :: l := by simp [pushL, e]
  rw [e, e2]
  exact push_yes g N l F i w h hi.1 hi.2.1 hi.2.2
 ·
  have hn : i < 0 ∨ N ≤ i ∨ i ∈ l := by
   by_cases h1 : i ∈ l
   · exact .inr (.inr h1)
   ·
    by_cases h2 : i < 0
    · exact .inl h2
    ·
     refine .inr (.inl ?_)
     rcases Int.lt_or_le i N with h3 | h3
     · exact absurd ⟨by omega, h3, h1⟩ hi
     · exact h3
  have e : pushOk N l i = false := by
   rcases hn with h | h | h
   · simp [pushOk]; omega
   · simp [pushOk]; omega
   · simp [pushOk, inB, h]
  have e2 : pushL N l i = l := by simp [pushL, e]
  rw [e, e2]
  refine (push_no g N l F i w h hn).mono ?_
  rintro e w' ⟨rfl, rfl⟩
  exact ⟨rfl, F, h, Chg.refl _ _, fun b hb => .inl hb⟩
end Go.Proofs.YtohapcacckapoaaGreat
