/- tables: what all parts tell, one list behind the other. tables: a call of each part's that changes it, what they tell one list behind the other: Drop, Go. -/
import Derived.Test.YtohapcacckapoaaGreatJ21
namespace Go.Proofs.YtohapcacckapoaaGreat
open Go Go.RowKit
attribute [local go_sem] Oper.semAt_some
theorem info_entT : ∃ z, (Tryz.prog.info? 101).map (fun i => (i.zero, i.size, i.bytes)) = some (some z, 14, 112) := ⟨.agg #[.int .i64 0, .bool false, .int .u64 0, .int .u64 0, .bool false, .int .u64 0, .int .u64 0, .int .i64 0, .int .i64 0, .int .i64 0, .int .i64 0, .int .i64 0, .int .u64 0, .int .i64 0], by kernel_rfl⟩
section
variable {α : Type} {cells : α → List Value} {W : World}
theorem step_push_list (h1 : ∀ a, ∀ u ∈ cells a, u.oneCell' = true) {ops : Array Oper} {o : Oper} {a : Act} {K : Act → World → Prop} {Q : Exit → Act → World → Prop} {E : Prop} (hgd : o.guard = none) (s x : Operand)
  (ho : o.op = .call { callee := .builtin .append, args := #[s, x], argTypes := #[76, 76] })
  (base : Nat) (A : Option Addr) (c : Nat) (l : List α) (n : Nat) (hn : l.length = n) (hs : a.eval s = .slice A n c) (hown : OwnA cells 14 101 W base A c l) (A2 : Option Addr) (c2 : Nat) (l2 : List α) (m : Nat) (hm2 : l2.length = m)
  (hx : a.eval x = .slice A2 m c2) (hr : Reads W W.heap.size 14 A2 m (l2.flatMap cells)) (hl : n + m ≤ 1000000) (hbase : base ≤ W.heap.size)
  (h : ∀ A' c' w', OwnA cells 14 101 w' base A' c' (l ++ l2) → Pushed W w' A A' → K (a.put o.dst (.slice A' (n + m) c')) w') :
  if Region.wanted o (yielded ops a.tmps) = true then Oper.wp Tryz.prog o a W K Q else E := by
 subst hn hm2
 obtain ⟨z, hinf⟩ := info_entT
 obtain ⟨i0, hi0, hz0, hz1, hz2⟩ := info_parts hinf
 have hzs : z.cells.size = 14 := by
  have h0 : ((Tryz.prog.info? 101).bind (fun i => i.zero)).map (fun z => z.cells.size) = some 14 := by kernel_rfl
  rw [hi0] at h0
  simpa [hz0] using h0
 refine step_append_sl _ hgd s x 76 ho base 101 i0 _ 14 112 Tryz.underlying76 hi0 hz0 hz1 hz2 hzs (by decide) (.slice A l.length c) l.length (l.flatMap cells) hs hown W.heap.size A2 l2.length c2 (l2.flatMap cells) hx hr (fun u hu => by
  obtain ⟨y, -, hy⟩ := List.mem_flatMap.1 hu
  exact h1 y u hy) (by unfold maxLen; omega) (by omega) hbase ?_
 intro A' c' w' hown' hg' hat
 have hA : ∀ k, (Value.slice A l.length c).ownBlock = some k ↔ InB A k := hown.own_block
 have hO : OwnA cells 14 101 w' base A' c' (l ++ l2) := by
  unfold OwnA
  rw [List.length_append, List.flatMap_append]
  exact hown'
 refine h A' c' w' hO ⟨?_, ?_⟩
 · exact (Chg.refl _ W).grown hg' (fun k hk _ => (hA k).1 hk)
 ·
  intro b hb
  have e1 : (Value.slice A' (l.length + l2.length) c').ownBlock = some b := by
   have := (hO.own_block b).2 hb
   simpa [Value.ownBlock] using this
  rcases hat with h2 | h2
  ·
   rw [h2] at e1
   exact .inl ((hA b).1 e1)
  ·
   rw [h2] at e1
   simp at e1
   exact .inr (by omega)
end
theorem OwnA.rebase {α : Type} {cells : α → List Value} {m : Nat} {e : TypeId} {w : World} {b b' : Nat} {A : Option Addr} {c : Nat} {l : List α} (h : OwnA cells m e w b A c l) (hb : b' ≤ b) : OwnA cells m e w b' A c l := by
 refine ⟨h.1, ?_⟩
 rcases h.2 with h2 | ⟨g, cap, cur, k1, k2, k3⟩
 · exact .inl h2
 · exact .inr ⟨g, cap, cur, k1, by omega, k3⟩
def catF {α : Type} (f : Nat → List α) : Nat → List α
 | 0 => []
 | k + 1 => catF f k ++ f k
theorem catF_len {α : Type} {f : Nat → List α} {m : Nat} (h : ∀ i, (f i).length ≤ m) : ∀ k, (catF f k).length ≤ k * m
 | 0 => by simp [catF]
 | k + 1 => by
  have := catF_len h k
  have := h k
  rw [catF, List.length_append, Nat.succ_mul]
  omega
set_option maxRecDepth 100000 in
set_option maxHeartbeats 8000000 in
theorem tabs_live_gen {α : Type} {cells : α → List Value} (h1c : ∀ a, ∀ u ∈ cells a, u.oneCell' = true) (g pb p q : Nat) (gs : Nat → Nat) (hp : p ≤ 16) (LL : Nat → List α) (hLL : ∀ i, (LL i).length ≤ 4096) (w : World) (T : World → Prop) (hT : T w) (hCT : ∀ W, T W → W.cell? ⟨g, 11, none⟩ = some (.slice (some ⟨pb, 0, none⟩) p q) ∧ ∀ i, i < p → W.cell? ⟨pb, i, none⟩ = some (.pointer (some ⟨gs i, 0, none⟩)))
  (hch : ∀ (F : Nat → Prop) W W', T W → Chg F W W' → (∀ y, F y → w.heap.size ≤ y) → T W') (LV : ∀ i W, i < p → T W → Calls Tryz.prog 108 #[.pointer (some ⟨gs i, 0, none⟩)] W fun e w' => ∃ (A : Option Addr) (a : Nat), e = .returned (.slice A (LL i).length a) ∧ OwnA cells 14 101 w' W.heap.size A a (LL i) ∧ Below W.heap.size W w') :
  Calls Tryz.prog 84 #[.pointer (some ⟨g, 0, none⟩)] w fun e w' => ∃ (A : Option Addr) (a : Nat), e = .returned (.slice A (catF LL p).length a) ∧ OwnA cells 14 101 w' w.heap.size A a (catF LL p) ∧ Below w.heap.size w w' := by
 refine (callsIn_wide (n := 9)).1 (callsIn_of_wp_marks Tryz.func84 rfl trivial ?_ rfl)
 simp only [Tryz.ntmps84, List.size_toArray, List.length_cons, List.length_nil, Nat.reduceAdd, Nat.reduceSub, Array.replicate_succ, Array.replicate_zero, List.push_toArray, List.append_toArray, List.nil_append, List.cons_append]
 refine (wpIn_wide (n := 9)).2 ?_
 go_wp2_with (go_at_call 105; (with_reducible refine (tabs_each _ _).mono ?_); rintro e w2 ⟨rfl, hw2⟩)
 have B1 := (Blk.new w 76 #[.slice none 0 0]).alloc (.cells #[.pointer (some ⟨g, 0, none⟩)] 157)
 have B2 := Blk.new (w.alloc (.cells #[.slice none 0 0] 76)) 157 #[.pointer (some ⟨g, 0, none⟩)]
 have hb2 : Below w.heap.size w ((w.alloc (.cells #[.slice none 0 0] 76)).alloc (.cells #[.pointer (some ⟨g, 0, none⟩)] 157)) := (by repeat (first | exact Below.refl _ _ | assumption | refine below_alloc ?_ _ | refine below_chain (by assumption) ?_ | refine below_call2 (by assumption) ?_ (by first | omega | (simp; done) | (simp; omega) | (simp [World.setCell]; omega)) | refine below_drewN ?_ _ | refine Below.drew ?_ | refine Below.alloc ?_ (by first | omega | (simp; done) | (simp; omega) | (simp [World.setCell]; omega)) _ | refine Below.setCell ?_ (by first | omega | (simp; done) | (simp; omega) | (simp [World.setCell]; omega)) _))
 have hz2 : w2.heap.size = w.heap.size + 2 := by rw [hw2, World.size_alloc, World.size_alloc]
 rw [World.size_alloc] at B2
 rw [← hw2] at B1 B2 hb2 ⊢
 clear hw2
 have hT2 := hch _ w w2 hT (Chg.of_below hb2) (fun y h => (h : False).elim)
 obtain ⟨bo, hbo⟩ : ∃ bo, w.heap.size = bo := ⟨_, rfl⟩
 rw [hbo] at B1 B2 hz2 hb2 hch ⊢
 refine wp_rangeN p (D := bo + 2) (by rw [hz2]) (gf := 123) (lb := #[.pointer (some ⟨bo + 1, 0, none⟩)]) rfl (enters_of Tryz.func123 (by kernel_rfl) rfl) (fun i => .pointer (some ⟨gs i, 0, none⟩)) rfl (EachC (bo + 1) g pb p q gs)
  (each_iter (bo + 1) g pb p q gs hp (EachC (bo + 1) g pb p q gs) fun W h => h)
  (fun k W => T W ∧ Below bo w W ∧ bo + 4 ≤ W.heap.size ∧ ∃ (A : Option Addr) (a : Nat), Blk W bo 76 #[.slice A (catF LL k).length a] ∧ Blk W (bo + 1) 157 #[.pointer (some ⟨g, 0, none⟩)] ∧ OwnA cells 14 101 W (bo + 4) A a (catF LL k))
  (fun _ _ => False) ?hC ?hI (fun _ _ _ _ h => h.elim) ?h0 ?a1 ?assign ?body ?done (fun _ _ h => h.elim)
 case hC =>
  rintro k W ⟨h1, -, -, A, a, -, h5, -⟩
  exact ⟨h5.cell 0, hCT W h1⟩
 case hI =>
  rintro k W o o' ⟨h1, h2, h3, A, a, h4, h5, h6⟩ ho -
  have k1 := chg_putObj W (bo + 3) o'
  exact ⟨hch _ _ _ h1 k1 (fun y e => by have e2 : y = bo + 3 := e; omega), below_chg h2 k1 (fun y hy e => by have e2 : y = bo + 3 := e; omega) (by omega), by rw [World.putObj_size]; exact h3, A, a, h4.chg k1 (fun e => by have e2 : bo = bo + 3 := e; omega), h5.chg k1 (fun e => by have e2 : bo + 1 = bo + 3 := e; omega), h6.chg k1 (fun y hy e => by have e2 : y = bo + 3 := e; have := (h6.block hy).1; omega)⟩
 case h0 =>
  intro o
  have hb3 : Below w2.heap.size w2 ((w2.alloc (.deferred (some []))).alloc o) := (by repeat (first | exact Below.refl _ _ | assumption | refine below_alloc ?_ _ | refine below_chain (by assumption) ?_ | refine below_call2 (by assumption) ?_ (by first | omega | (simp; done) | (simp; omega) | (simp [World.setCell]; omega)) | refine below_drewN ?_ _ | refine Below.drew ?_ | refine Below.alloc ?_ (by first | omega | (simp; done) | (simp; omega) | (simp [World.setCell]; omega)) _ | refine Below.setCell ?_ (by first | omega | (simp; done) | (simp; omega) | (simp [World.setCell]; omega)) _))
  exact ⟨hch _ _ _ hT2 (Chg.of_below hb3) (fun y h => (h : False).elim), below_chg hb2 (Chg.of_below hb3) (fun _ _ h => h) (by omega), by rw [World.size_alloc, World.size_alloc]; omega, none, 0, B1.call hb3, B2.call hb3, OwnA.nil _ _⟩
 case assign =>
  intro l k W K hK
  gi_wp2
  exact hK
 case body =>
  rintro l k W od ol hk ⟨h1, h2, h3, A, a, h4, h5, h6⟩ hod hdc hol hlc
  have hmx : Tryz.prog.follows .mixedOrders = true := by kernel_rfl
  refine wpIn_block (wpIn_region_drawn l 7 hmx (by kernel_rfl) (by rintro ⟨_, _, h⟩; exact h) ?_)
  have c0 : W.drew.cell? ⟨bo, 0, none⟩ = some (.slice A (catF LL k).length a) := h4.cell 0
  have L1 := LV k W.drew hk (hch _ W W.drew h1 (Chg.of_below (Below.refl _ W).drew) (fun y h => (h : False).elim))
  have hl1 := catF_len hLL k
  have hl2 := hLL k
  have hl3 : k * 4096 ≤ 16 * 4096 := Nat.mul_le_mul_right _ (by omega)
  have hCS : catF LL (k + 1) = catF LL k ++ LL k := rfl
  have hln : (catF LL (k + 1)).length = (catF LL k).length + (LL k).length := by rw [hCS, List.length_append]
  obtain ⟨L0, hL0⟩ : ∃ L, catF LL k = L := ⟨_, rfl⟩
  rw [hL0] at c0 hCS hln hl1 h4 h6
  have FIN : ∀ (A1 : Option Addr) (q1 : Nat) (w1 : World) (A' : Option Addr) (c' : Nat) (w' : World), OwnA cells 14 101 w1 W.heap.size A1 q1 (LL k) → Below W.heap.size W w1 → OwnA cells 14 101 w' (bo + 4) A' c' (L0 ++ LL k) → Pushed w1 w' A A' →
    KeepD (bo + 2) W (w'.setCell ⟨bo, 0, none⟩ (.slice A' (L0.length + (LL k).length) c')) ∧ T (w'.setCell ⟨bo, 0, none⟩ (.slice A' (L0.length + (LL k).length) c')) ∧ Below bo w (w'.setCell ⟨bo, 0, none⟩ (.slice A' (L0.length + (LL k).length) c')) ∧ bo + 4 ≤ (w'.setCell ⟨bo, 0, none⟩ (.slice A' (L0.length + (LL k).length) c')).heap.size ∧
    ∃ (A : Option Addr) (a : Nat), Blk (w'.setCell ⟨bo, 0, none⟩ (.slice A' (L0.length + (LL k).length) c')) bo 76 #[.slice A (catF LL (k + 1)).length a] ∧ Blk (w'.setCell ⟨bo, 0, none⟩ (.slice A' (L0.length + (LL k).length) c')) (bo + 1) 157 #[.pointer (some ⟨g, 0, none⟩)] ∧ OwnA cells 14 101 (w'.setCell ⟨bo, 0, none⟩ (.slice A' (L0.length + (LL k).length) c')) (bo + 4) A a (catF LL (k + 1)) := by
   intro A1 q1 w1 A' c' w' hO1 hb1 hO2 hp
   have hAb := fun y (hy : InB A y) => (h6.block hy).1
   have k1 : Chg (fun y => bo + 4 ≤ y) W w' := (Chg.of_below (F := fun y => bo + 4 ≤ y) hb1).trans hp.chg fun y _ hy => hAb y hy
   have k2 : Chg (fun y => y = bo ∨ bo + 4 ≤ y) W (w'.setCell ⟨bo, 0, none⟩ (.slice A' (L0.length + (LL k).length) c')) := Chg.setCell (F := fun y => y = bo ∨ bo + 4 ≤ y) (p := ⟨bo, 0, none⟩) (k1.mono fun y _ h => .inr h) (fun _ => .inl rfl) _
   have hs := ((h4.chg k1 (by omega)).set_ 0 (.slice A' (L0.length + (LL k).length) c'))
   simp at hs
   refine ⟨keepD_chg k2 (by omega) (by omega) (by omega), hch _ _ _ h1 k2 (fun y hy => by omega), below_chg h2 k2 (fun y hy => by omega) (by omega), by have := k2.size; omega, A', c', ?_, h5.chg k2 (by omega), ?_⟩
   ·
    rw [hln]
    exact hs
   ·
    rw [hCS]
    exact hO2.far (fun h => by have h7 := (hO2.block h).1; have h8 : bo + 4 ≤ bo := h7; omega) _
  replace FIN := Lib.hid FIN
  replace hO0 := Lib.hid h6
  clear h6
  refine wpAny_ready (rs := [0, 1]) (by kernel_rfl) (by simp) ?_
  refine AllReady.cons rfl (fun K hK => ?_) (AllReady.cons rfl (fun K hK => ?_) AllReady.nil)
  ·
   go_simp
   refine hK _ _ ?_
   clear hK K
   refine wpAny_ready (rs := [1]) (by kernel_rfl) (by simp) ?_
   refine AllReady.cons rfl (fun K hK => ?_) AllReady.nil
   go_simp
   refine hK _ _ ?_
   clear hK K
   refine wpAny_ready (rs := [2]) (by kernel_rfl) (by simp) ?_
   refine AllReady.cons rfl (fun K hK => ?_) AllReady.nil
   go_simp
   (go_at_call 108; refine L1.mono ?_)
   rintro e w1 ⟨A1, q1, rfl, hO1, hb1⟩
   have c1 := (hb1.cell (block_lt_of_cell c0)).trans c0
   replace hb1 : Below W.heap.size W w1 := below_chain hb1 (Below.refl W.heap.size W).drew
   refine hK _ _ ?_
   clear hK K
   refine wpAny_ready (rs := [3]) (by kernel_rfl) (by simp) ?_
   refine AllReady.cons rfl (fun K hK => ?_) AllReady.nil
   refine step_push_list h1c rfl (.tmp 8) (.tmp 10) rfl (bo + 4) A a L0 L0.length rfl rfl (hO0.out.call hb1) A1 q1 (LL k) (LL k).length rfl rfl hO1.reads (by omega) (by have := hb1.size; have h9 : W.drew.heap.size = W.heap.size := rfl; omega) ?_
   intro A' c' w' hO2 hp2
   refine hK _ _ ?_
   clear hK K
   refine wpAny_ready (rs := [4]) (by kernel_rfl) (by simp) ?_
   refine AllReady.cons rfl (fun K hK => ?_) AllReady.nil
   have B5 := (h4.call hb1).chg hp2.chg (fun y => by have h7 := (hO0.out.block y).1; have h8 : bo + 4 ≤ bo := h7; omega)
   have c5 := B5.cell 0
   have f5 := B5.frozen 0
   simp at c5
   go_simp
   refine hK _ _ ?_
   clear hK K
   refine wpAny_done (by kernel_rfl) ?_ _
   exact FIN.out A1 q1 w1 A' c' w' hO1 hb1 hO2 hp2
  ·
   go_simp
   refine hK _ _ ?_
   clear hK K
   refine wpAny_ready (rs := [0, 2]) (by kernel_rfl) (by simp) ?_
   refine AllReady.cons rfl (fun K hK => ?_) (AllReady.cons rfl (fun K hK => ?_) AllReady.nil)
   ·
    go_simp
    refine hK _ _ ?_
    clear hK K
    refine wpAny_ready (rs := [2]) (by kernel_rfl) (by simp) ?_
    refine AllReady.cons rfl (fun K hK => ?_) AllReady.nil
    go_simp
    (go_at_call 108; refine L1.mono ?_)
    rintro e w1 ⟨A1, q1, rfl, hO1, hb1⟩
    have c1 := (hb1.cell (block_lt_of_cell c0)).trans c0
    replace hb1 : Below W.heap.size W w1 := below_chain hb1 (Below.refl W.heap.size W).drew
    refine hK _ _ ?_
    clear hK K
    refine wpAny_ready (rs := [3]) (by kernel_rfl) (by simp) ?_
    refine AllReady.cons rfl (fun K hK => ?_) AllReady.nil
    refine step_push_list h1c rfl (.tmp 8) (.tmp 10) rfl (bo + 4) A a L0 L0.length rfl rfl (hO0.out.call hb1) A1 q1 (LL k) (LL k).length rfl rfl hO1.reads (by omega) (by have := hb1.size; have h9 : W.drew.heap.size = W.heap.size := rfl; omega) ?_
    intro A' c' w' hO2 hp2
    refine hK _ _ ?_
    clear hK K
    refine wpAny_ready (rs := [4]) (by kernel_rfl) (by simp) ?_
    refine AllReady.cons rfl (fun K hK => ?_) AllReady.nil
    have B5 := (h4.call hb1).chg hp2.chg (fun y => by have h7 := (hO0.out.block y).1; have h8 : bo + 4 ≤ bo := h7; omega)
    have c5 := B5.cell 0
    have f5 := B5.frozen 0
    simp at c5
    go_simp
    refine hK _ _ ?_
    clear hK K
    refine wpAny_done (by kernel_rfl) ?_ _
    exact FIN.out A1 q1 w1 A' c' w' hO1 hb1 hO2 hp2
   ·
    go_simp
    (go_at_call 108; refine L1.mono ?_)
    rintro e w1 ⟨A1, q1, rfl, hO1, hb1⟩
    have c1 := (hb1.cell (block_lt_of_cell c0)).trans c0
    replace hb1 : Below W.heap.size W w1 := below_chain hb1 (Below.refl W.heap.size W).drew
    refine hK _ _ ?_
    clear hK K
    refine wpAny_ready (rs := [0]) (by kernel_rfl) (by simp) ?_
    refine AllReady.cons rfl (fun K hK => ?_) AllReady.nil
    go_simp
    refine hK _ _ ?_
    clear hK K
    refine wpAny_ready (rs := [3]) (by kernel_rfl) (by simp) ?_
    refine AllReady.cons rfl (fun K hK => ?_) AllReady.nil
    refine step_push_list h1c rfl (.tmp 8) (.tmp 10) rfl (bo + 4) A a L0 L0.length rfl rfl (hO0.out.call hb1) A1 q1 (LL k) (LL k).length rfl rfl hO1.reads (by omega) (by have := hb1.size; have h9 : W.drew.heap.size = W.heap.size := rfl; omega) ?_
    intro A' c' w' hO2 hp2
    refine hK _ _ ?_
    clear hK K
    refine wpAny_ready (rs := [4]) (by kernel_rfl) (by simp) ?_
    refine AllReady.cons rfl (fun K hK => ?_) AllReady.nil
    have B5 := (h4.call hb1).chg hp2.chg (fun y => by have h7 := (hO0.out.block y).1; have h8 : bo + 4 ≤ bo := h7; omega)
    have c5 := B5.cell 0
    have f5 := B5.frozen 0
    simp at c5
    go_simp
    refine hK _ _ ?_
    clear hK K
    refine wpAny_done (by kernel_rfl) ?_ _
    exact FIN.out A1 q1 w1 A' c' w' hO1 hb1 hO2 hp2
 case done =>
  rintro W ⟨h1, h2, h3, A, a, h4, h5, h6⟩ hd
  have c0 := h4.cell 0
  simp at c0
  go_wp2
  refine ⟨by simp, .inl ⟨_, _, rfl, run_takeDeferred hd, ?_⟩⟩
  have k1 := chg_putObj W (bo + 2) (.deferred none)
  refine ⟨_, results_tmp rfl _ _ _, A, a, rfl, ?_, by rw [hbo]; exact below_chg h2 k1 (fun y hy e => by have e2 : y = bo + 2 := e; omega) (by omega)⟩
  exact (h6.chg k1 (fun y hy e => by have e2 : y = bo + 2 := e; have := (h6.block hy).1; omega)).rebase (by omega)
end Go.Proofs.YtohapcacckapoaaGreat
namespace Go.Proofs.YtohapcacckapoaaGreat
open Go Go.RowKit
attribute [local go_sem] Oper.semAt_some
def RoundT {α : Type} (cells : α → List Value) (T : Nat → World → (Nat → Prop) → Prop) (X : Nat → Prop) (w : World) (bo h : Nat) (LL : Nat → List α) (k : Nat) (W : World) (A : Option Addr) (a : Nat) : Prop :=
 OwnA cells 14 101 W (bo + h) A a (catF LL k) ∧ ∃ X', T k W X' ∧ Chg X w W ∧ (∀ y, X' y → X y ∨ bo + h ≤ y) ∧ (∀ y, X' y → ¬ InB A y)
structure TableT (T : Nat → World → (Nat → Prop) → Prop) (g pb p q : Nat) (gs : Nat → Nat) : Prop where
 lt : ∀ {k : Nat} {W : World} {X' : Nat → Prop}, T k W X' → ∀ y, X' y → y < W.heap.size
 chg : ∀ {k : Nat} {W W' : World} {X' F : Nat → Prop}, T k W X' → Chg F W W' → (∀ y, X' y → ¬ F y) → T k W' X'
 cells : ∀ {k : Nat} {W : World} {X' : Nat → Prop}, T k W X' → W.cell? ⟨g, 11, none⟩ = some (.slice (some ⟨pb, 0, none⟩) p q) ∧ ∀ i, i < p → W.cell? ⟨pb, i, none⟩ = some (.pointer (some ⟨gs i, 0, none⟩))
section
variable {α : Type} {cells : α → List Value} {T : Nat → World → (Nat → Prop) → Prop} {X F : Nat → Prop} {w W W' : World} {bo h g pb p q k : Nat} {gs : Nat → Nat} {LL : Nat → List α} {A : Option Addr} {a : Nat}
theorem RoundT.chg (hT : TableT T g pb p q gs) (hw : w.heap.size = bo) (r : RoundT cells T X w bo h LL k W A a) (hX : ∀ y, X y → y < bo) (c : Chg F W W') (hF : ∀ y, F y → bo ≤ y ∧ y < bo + h) : RoundT cells T X w bo h LL k W' A a := by
 obtain ⟨h1, X', h2, h3, h4, h5⟩ := r
 refine ⟨h1.chg c fun y hy e => by have := (h1.block hy).1; have := hF y e; omega, X', hT.chg h2 c fun y hy e => ?_, h3.trans c fun y hy e => by have := hF y e; omega, h4, h5⟩
 have := hF y e
 rcases h4 y hy with h | h
 ·
  have := hX y h
  omega
 · omega
theorem RoundT.next (hT : TableT T g pb p q gs) (hw : w.heap.size = bo) (hz : bo + h ≤ W.heap.size) {X' X'' : Nat → Prop} {w1 w2 : World} {A' : Option Addr} {a' : Nat} (h3 : Chg X w W) (h4 : ∀ y, X' y → X y ∨ bo + h ≤ y) (h5 : ∀ y, X' y → ¬ InB A y) (hA : ∀ y, InB A y → bo + h ≤ y ∧ y < W.heap.size) (t : T (k + 1) w1 X'') (c : Chg X' W w1) (hn : ∀ y, X'' y → X' y ∨ W.heap.size ≤ y)
  (hO : OwnA cells 14 101 w2 (bo + h) A' a' (catF LL (k + 1))) (hp : Pushed w1 w2 A A') : RoundT cells T X w bo h LL (k + 1) w2 A' a' ∧ Chg (fun y => X' y ∨ InB A y) W w2 := by
 have hz1 := c.size
 have hd : ∀ y, X'' y → ¬ InB A y := fun y hy ha => by
  rcases hn y hy with h | h
  · exact h5 y h ha
  ·
   have := (hA y ha).2
   omega
 refine ⟨⟨hO, X'', hT.chg t hp.chg hd, (h3.trans c fun y hy hx => ?_).trans hp.chg fun y hy ha => ?_, fun y hy => ?_, fun y hy ha => ?_⟩, (c.mono fun y _ h => .inl h).trans hp.chg fun y _ h => .inr h⟩
 ·
  rcases h4 y hx with h | h
  · exact h
  · omega
 ·
  have := (hA y ha).1
  omega
 ·
  rcases hn y hy with h | h
  · exact h4 y h
  · exact .inr (by omega)
 ·
  rcases hp.new y ha with h | h
  · exact hd y hy h
  ·
   have := hT.lt t y hy
   omega
end
end Go.Proofs.YtohapcacckapoaaGreat
