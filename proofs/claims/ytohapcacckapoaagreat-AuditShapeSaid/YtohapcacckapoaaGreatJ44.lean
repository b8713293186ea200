/- tables: Go over all parts. tables: Go over all parts at a time that may not be. -/
import Derived.Test.YtohapcacckapoaaGreatJ22
import Derived.Test.YtohapcacckapoaaGreatJ40
namespace Go.Proofs.YtohapcacckapoaaGreat
open Go Go.RowKit
attribute [local go_sem] Oper.semAt_some
section
variable {α : Type} {cells : α → List Value} {W : World}
theorem oper_push_list (h1 : ∀ a, ∀ u ∈ cells a, u.oneCell' = true) {o : Oper} {a : Act} {K : Act → World → Prop} {Q : Exit → Act → World → Prop} (s x : Operand)
  (ho : o.op = .call { callee := .builtin .append, args := #[s, x], argTypes := #[76, 76] })
  (base : Nat) (A : Option Addr) (c : Nat) (l : List α) (n : Nat) (hn : l.length = n) (hs : a.eval s = .slice A n c) (hown : OwnA cells 14 101 W base A c l) (A2 : Option Addr) (c2 : Nat) (l2 : List α) (m : Nat) (hm2 : l2.length = m)
  (hx : a.eval x = .slice A2 m c2) (hr : Reads W W.heap.size 14 A2 m (l2.flatMap cells)) (hl : n + m ≤ 1000000) (hbase : base ≤ W.heap.size)
  (h : ∀ A' c' w', OwnA cells 14 101 w' base A' c' (l ++ l2) → Pushed W w' A A' → K (a.put o.dst (.slice A' (n + m) c')) w') : o.wp Tryz.prog a W K Q := by
 subst hn hm2
 obtain ⟨z, hinf⟩ := info_entT
 obtain ⟨i0, hi0, hz0, hz1, hz2⟩ := info_parts hinf
 have hzs : z.cells.size = 14 := by
  have h0 : ((Tryz.prog.info? 101).bind (fun i => i.zero)).map (fun z => z.cells.size) = some 14 := by kernel_rfl
  rw [hi0] at h0
  simpa [hz0] using h0
 refine wp_append_any _ s x 76 ho base 101 i0 _ 14 112 Tryz.underlying76 hi0 hz0 hz1 hz2 hzs (by decide) (.slice A l.length c) l.length (l.flatMap cells) hs hown W.heap.size A2 l2.length c2 (l2.flatMap cells) hx hr (fun u hu => by
  obtain ⟨y, -, hy⟩ := List.mem_flatMap.1 hu
  exact h1 y u hy) (by unfold maxLen; omega) (by omega) hbase ?_
 intro v' w' hown' hg' hat
 obtain ⟨A', c', rfl⟩ := slice_of_own w' hown'
 have hA : ∀ k, (Value.slice A l.length c).ownBlock = some k ↔ InB A k := hown.own_block
 have hO : OwnA cells 14 101 w' base A' c' (l ++ l2) := by
  unfold OwnA
  rw [List.length_append, List.flatMap_append]
  exact hown'
 refine h A' c' w' hO ⟨?_, ?_⟩
 · exact (Chg.refl _ W).grown hg' (fun k hk _ => (hA k).1 hk)
 ·
  intro b hb
  have e1 : (Value.slice A' (l.length + l2.length) c').ownBlock = some b := by
   have := (hO.own_block b).2 hb
   simpa [Value.ownBlock] using this
  rcases hat with h2 | h2
  ·
   rw [h2] at e1
   exact .inl ((hA b).1 e1)
  ·
   rw [h2] at e1
   simp at e1
   exact .inr (by omega)
theorem wpListIn_push_list (l0 nF : Nat) (h1 : ∀ a, ∀ u ∈ cells a, u.oneCell' = true) {ops : Array Oper} {rest : List Oper} {o : Oper} {a : Act} {Q : Exit → Act → World → Prop} (hgd : o.guard = none) (s x : Operand)
  (ho : o.op = .call { callee := .builtin .append, args := #[s, x], argTypes := #[76, 76] })
  (base : Nat) (A : Option Addr) (c : Nat) (l : List α) (n : Nat) (hn : l.length = n) (hs : a.eval s = .slice A n c) (hown : OwnA cells 14 101 W base A c l) (A2 : Option Addr) (c2 : Nat) (l2 : List α) (m : Nat) (hm2 : l2.length = m)
  (hx : a.eval x = .slice A2 m c2) (hr : Reads W W.heap.size 14 A2 m (l2.flatMap cells)) (hl : n + m ≤ 1000000) (hbase : base ≤ W.heap.size)
  (h : ∀ A' c' w', OwnA cells 14 101 w' base A' c' (l ++ l2) → Pushed W w' A A' → wpListIn (Fence.wide.inRound l0) nF Tryz.prog ops Q rest (a.put o.dst (.slice A' (n + m) c')) w') : wpListIn (Fence.wide.inRound l0) nF Tryz.prog ops Q (o :: rest) a W :=
 wpListIn_plain hgd fun _ hK => operIn l0 nF (by rw [ho]; intro c hc; cases hc) (oper_push_list h1 s x ho base A c l n hn hs hown A2 c2 l2 m hm2 hx hr hl hbase fun A' c' w' hO hp => hK _ _ (h A' c' w' hO hp))
end
set_option maxRecDepth 100000 in
set_option maxHeartbeats 8000000 in
theorem tabs_go_gen {α : Type} {cells : α → List Value} (h1c : ∀ a, ∀ u ∈ cells a, u.oneCell' = true) (g pb p q : Nat) (gs : Nat → Nat) (hp : p ≤ 16) (hp1 : 1 ≤ p) (LL : Nat → List α) (hLL : ∀ i, (LL i).length ≤ 4096) (nw : Int) (w : World) (X : Nat → Prop) (hX : ∀ y, X y → y < w.heap.size) (T : Nat → World → (Nat → Prop) → Prop) (hTT : TableT T g pb p q gs) (hT : T 0 w X)
  (DR : ∀ k W X', k < p → T k W X' → Calls Tryz.prog 106 #[.pointer (some ⟨gs k, 0, none⟩), .int .i64 nw] W fun e w' => ∃ (A : Option Addr) (a : Nat), e = .returned (.tuple #[.slice A (LL k).length a, .int .i64 0]) ∧ OwnA cells 14 101 w' W.heap.size A a (LL k) ∧ ∃ X'', T (k + 1) w' X'' ∧ Chg X' W w' ∧ ∀ y, X'' y → X' y ∨ W.heap.size ≤ y) :
  Calls Tryz.prog 82 #[.pointer (some ⟨g, 0, none⟩), .int .i64 nw] w fun e w' => ∃ (A : Option Addr) (a : Nat), e = .returned (.tuple #[.slice A (catF LL p).length a, .int .i64 0]) ∧ OwnA cells 14 101 w' w.heap.size A a (catF LL p) ∧ ∃ X', T p w' X' ∧ Chg X w w' ∧ (∀ y, X' y → X y ∨ w.heap.size ≤ y) ∧ (∀ y, X' y → ¬ InB A y) := by
 have GV := Lib.hid fun W (hb : Below w.heap.size w W) => tabs_given g pb p q W ((hTT.cells (hTT.chg hT (Chg.of_below hb) (fun y _ h => (h : False).elim))).1) hp1
 refine (callsIn_wide (n := 9)).1 (callsIn_of_wp_marks Tryz.func82 rfl trivial ?_ rfl)
 simp only [Tryz.ntmps82, List.size_toArray, List.length_cons, List.length_nil, Nat.reduceAdd, Nat.reduceSub, Array.replicate_succ, Array.replicate_zero, List.push_toArray, List.append_toArray, List.nil_append, List.cons_append]
 refine (wpIn_wide (n := 9)).2 ?_
 go_wp2_with (first
  | (go_at_call 104; (with_reducible refine (GV.out _ (by repeat (first | exact Below.refl _ _ | assumption | refine below_alloc ?_ _ | refine below_chain (by assumption) ?_ | refine below_call2 (by assumption) ?_ (by first | omega | (simp; done) | (simp; omega) | (simp [World.setCell]; omega)) | refine below_drewN ?_ _ | refine Below.drew ?_ | refine Below.alloc ?_ (by first | omega | (simp; done) | (simp; omega) | (simp [World.setCell]; omega)) _ | refine Below.setCell ?_ (by first | omega | (simp; done) | (simp; omega) | (simp [World.setCell]; omega)) _))).mono ?_); rintro e w1 ⟨rfl, rfl⟩)
  | (go_at_call 105; (with_reducible refine (tabs_each _ _).mono ?_); rintro e w2 ⟨rfl, hw2⟩))
 have B0 := ((((Blk.new w 3 #[.int .i64 nw]).alloc (.cells #[.slice none 0 0] 76)).alloc (.cells #[.int .i64 0] 42)).alloc (.cells #[.slice none 0 0] 76)).alloc (.cells #[.pointer (some ⟨g, 0, none⟩)] 157)
 have B1 := (((Blk.new (w.alloc (.cells #[.int .i64 nw] 3)) 76 #[.slice none 0 0]).alloc (.cells #[.int .i64 0] 42)).alloc (.cells #[.slice none 0 0] 76)).alloc (.cells #[.pointer (some ⟨g, 0, none⟩)] 157)
 have B2 := ((Blk.new ((w.alloc (.cells #[.int .i64 nw] 3)).alloc (.cells #[.slice none 0 0] 76)) 42 #[.int .i64 0]).alloc (.cells #[.slice none 0 0] 76)).alloc (.cells #[.pointer (some ⟨g, 0, none⟩)] 157)
 have B3 := (Blk.new (((w.alloc (.cells #[.int .i64 nw] 3)).alloc (.cells #[.slice none 0 0] 76)).alloc (.cells #[.int .i64 0] 42)) 76 #[.slice none 0 0]).alloc (.cells #[.pointer (some ⟨g, 0, none⟩)] 157)
 have B4 := Blk.new ((((w.alloc (.cells #[.int .i64 nw] 3)).alloc (.cells #[.slice none 0 0] 76)).alloc (.cells #[.int .i64 0] 42)).alloc (.cells #[.slice none 0 0] 76)) 157 #[.pointer (some ⟨g, 0, none⟩)]
 have hb2 : Below w.heap.size w (((((w.alloc (.cells #[.int .i64 nw] 3)).alloc (.cells #[.slice none 0 0] 76)).alloc (.cells #[.int .i64 0] 42)).alloc (.cells #[.slice none 0 0] 76)).alloc (.cells #[.pointer (some ⟨g, 0, none⟩)] 157)) := (by repeat (first | exact Below.refl _ _ | assumption | refine below_alloc ?_ _ | refine below_chain (by assumption) ?_ | refine below_call2 (by assumption) ?_ (by first | omega | (simp; done) | (simp; omega) | (simp [World.setCell]; omega)) | refine below_drewN ?_ _ | refine Below.drew ?_ | refine Below.alloc ?_ (by first | omega | (simp; done) | (simp; omega) | (simp [World.setCell]; omega)) _ | refine Below.setCell ?_ (by first | omega | (simp; done) | (simp; omega) | (simp [World.setCell]; omega)) _))
 have hz2 : w2.heap.size = w.heap.size + 5 := by rw [hw2, World.size_alloc, World.size_alloc, World.size_alloc, World.size_alloc, World.size_alloc]
 simp only [World.size_alloc] at B1 B2 B3 B4
 rw [← hw2] at B0 B1 B2 B3 B4 hb2 ⊢
 clear hw2 GV
 obtain ⟨b0, hb0⟩ : ∃ b0, w.heap.size = b0 := ⟨_, rfl⟩
 rw [hb0] at B0 B1 B2 B3 B4 hz2 hX ⊢
 simp only [Nat.add_assoc, Nat.reduceAdd] at B2 B3 B4 ⊢
 have R0 : RoundT cells T X w b0 7 LL 0 w2 none 0 := ⟨OwnA.nil _ _, X, hTT.chg hT (Chg.of_below hb2) (fun y _ h => (h : False).elim), Chg.of_below hb2, fun y h => .inl h, fun y _ h => by obtain ⟨ad, e, -⟩ := h; cases e⟩
 refine wp_rangeN p (D := b0 + 5) (by rw [hz2]) (gf := 123) (lb := #[.pointer (some ⟨b0 + 4, 0, none⟩)]) rfl (enters_of Tryz.func123 (by kernel_rfl) rfl) (fun i => .pointer (some ⟨gs i, 0, none⟩)) rfl (EachC (b0 + 4) g pb p q gs)
  (each_iter (b0 + 4) g pb p q gs hp (EachC (b0 + 4) g pb p q gs) fun W h => h)
  (fun k W => b0 + 7 ≤ W.heap.size ∧ ∃ (A : Option Addr) (a : Nat), Blk W b0 3 #[.int .i64 nw] ∧ Blk W (b0 + 1) 76 #[.slice none 0 0] ∧ Blk W (b0 + 2) 42 #[.int .i64 0] ∧ Blk W (b0 + 3) 76 #[.slice A (catF LL k).length a] ∧ Blk W (b0 + 4) 157 #[.pointer (some ⟨g, 0, none⟩)] ∧ RoundT cells T X w b0 7 LL k W A a)
  (fun _ _ => False) ?hC ?hI (fun _ _ _ _ h => h.elim) ?h0 ?a1 ?assign ?body ?done (fun _ _ h => h.elim)
 case hC =>
  rintro k W ⟨h3, A, a, -, -, -, -, h5, -, X', h6, -⟩
  exact ⟨h5.cell 0, hTT.cells h6⟩
 case hI =>
  rintro k W o o' ⟨h3, A, a, h0, h1, h2, h4, h5, h6⟩ ho -
  have k1 := chg_putObj W (b0 + 6) o'
  exact ⟨by rw [World.putObj_size]; exact h3, A, a, h0.chg k1 (fun e => by have e2 : b0 = b0 + 6 := e; omega), h1.chg k1 (fun e => by have e2 : b0 + 1 = b0 + 6 := e; omega), h2.chg k1 (fun e => by have e2 : b0 + 2 = b0 + 6 := e; omega), h4.chg k1 (fun e => by have e2 : b0 + 3 = b0 + 6 := e; omega), h5.chg k1 (fun e => by have e2 : b0 + 4 = b0 + 6 := e; omega), h6.chg hTT hb0 hX k1 (fun y e => by have e2 : y = b0 + 6 := e; omega)⟩
 case h0 =>
  intro o
  have hb3 : Below w2.heap.size w2 ((w2.alloc (.deferred (some []))).alloc o) := (by repeat (first | exact Below.refl _ _ | assumption | refine below_alloc ?_ _ | refine below_chain (by assumption) ?_ | refine below_call2 (by assumption) ?_ (by first | omega | (simp; done) | (simp; omega) | (simp [World.setCell]; omega)) | refine below_drewN ?_ _ | refine Below.drew ?_ | refine Below.alloc ?_ (by first | omega | (simp; done) | (simp; omega) | (simp [World.setCell]; omega)) _ | refine Below.setCell ?_ (by first | omega | (simp; done) | (simp; omega) | (simp [World.setCell]; omega)) _))
  exact ⟨by rw [World.size_alloc, World.size_alloc]; omega, none, 0, B0.call hb3, B1.call hb3, B2.call hb3, B3.call hb3, B4.call hb3, R0.chg hTT hb0 hX (Chg.of_below hb3) (fun y h => (h : False).elim)⟩
 case assign =>
  intro l k W K hK
  gi_wp2
  exact hK
 case body =>
  rintro l k W od ol hk ⟨h3, A, a, h0, h1, h2, h4, h5, h6⟩ hod hdc hol hlc
  have hl1 := catF_len hLL k
  have hl2 := hLL k
  have hl3 : k * 4096 ≤ 16 * 4096 := Nat.mul_le_mul_right _ (by omega)
  have hCS : catF LL (k + 1) = catF LL k ++ LL k := rfl
  have hln : (catF LL (k + 1)).length = (catF LL k).length + (LL k).length := by rw [hCS, List.length_append]
  obtain ⟨hO0, X1, hT1, h8, h9, h10⟩ := h6
  have hX1 : ∀ y, X1 y → ¬ (b0 ≤ y ∧ y < b0 + 7) := fun y hy e => by
   rcases h9 y hy with h | h
   ·
    have := hX y h
    omega
   · omega
  have D1 := Lib.hid (DR k W X1 hk hT1)
  have hAb := fun y (hy : InB A y) => hO0.block hy
  have FIN : ∀ (w1 : World) (A' : Option Addr) (c' : Nat) (w' : World) (X2 : Nat → Prop), T (k + 1) w1 X2 → Chg X1 W w1 → (∀ y, X2 y → X1 y ∨ W.heap.size ≤ y) → OwnA cells 14 101 w' (b0 + 7) A' c' (catF LL k ++ LL k) → Pushed w1 w' A A' →
    KeepD (b0 + 5) W (w'.setCell ⟨b0 + 3, 0, none⟩ (.slice A' ((catF LL k).length + (LL k).length) c')) ∧ b0 + 7 ≤ (w'.setCell ⟨b0 + 3, 0, none⟩ (.slice A' ((catF LL k).length + (LL k).length) c')).heap.size ∧
    ∃ (A : Option Addr) (a : Nat), Blk (w'.setCell ⟨b0 + 3, 0, none⟩ (.slice A' ((catF LL k).length + (LL k).length) c')) b0 3 #[.int .i64 nw] ∧ Blk (w'.setCell ⟨b0 + 3, 0, none⟩ (.slice A' ((catF LL k).length + (LL k).length) c')) (b0 + 1) 76 #[.slice none 0 0] ∧ Blk (w'.setCell ⟨b0 + 3, 0, none⟩ (.slice A' ((catF LL k).length + (LL k).length) c')) (b0 + 2) 42 #[.int .i64 0] ∧
     Blk (w'.setCell ⟨b0 + 3, 0, none⟩ (.slice A' ((catF LL k).length + (LL k).length) c')) (b0 + 3) 76 #[.slice A (catF LL (k + 1)).length a] ∧ Blk (w'.setCell ⟨b0 + 3, 0, none⟩ (.slice A' ((catF LL k).length + (LL k).length) c')) (b0 + 4) 157 #[.pointer (some ⟨g, 0, none⟩)] ∧
     RoundT cells T X w b0 7 LL (k + 1) (w'.setCell ⟨b0 + 3, 0, none⟩ (.slice A' ((catF LL k).length + (LL k).length) c')) A a := by
   intro w1 A' c' w' X2 hT2 hc2 hn2 hO3 hp2
   obtain ⟨hR, hC⟩ := RoundT.next hTT hb0 h3 h8 h9 h10 hAb hT2 hc2 hn2 hO3 hp2
   have hN : ∀ y, X1 y ∨ InB A y → ¬ (b0 ≤ y ∧ y < b0 + 7) := fun y hy e => by
    rcases hy with h | h
    · exact hX1 y h e
    ·
     have := (hAb y h).1
     omega
   have k2 : Chg (· = b0 + 3) w' (w'.setCell ⟨b0 + 3, 0, none⟩ (.slice A' ((catF LL k).length + (LL k).length) c')) := Chg.setCell (F := (· = b0 + 3)) (p := ⟨b0 + 3, 0, none⟩) (Chg.refl _ _) (fun _ => rfl) _
   have k3 : Chg (fun y => y = b0 + 3 ∨ X1 y ∨ InB A y) W (w'.setCell ⟨b0 + 3, 0, none⟩ (.slice A' ((catF LL k).length + (LL k).length) c')) := (hC.mono fun y _ h => .inr h).trans k2 fun y _ h => .inl h
   have hs := ((h4.chg hC (fun e => hN _ e (by omega))).set_ 0 (.slice A' ((catF LL k).length + (LL k).length) c'))
   simp at hs
   refine ⟨keepD_chg k3 (by omega) (fun e => e.elim (by omega) fun e => hN _ e (by omega)) (fun e => e.elim (by omega) fun e => hN _ e (by omega)), by have := k3.size; omega, A', c', h0.chg k3 (fun e => e.elim (by omega) fun e => hN _ e (by omega)), h1.chg k3 (fun e => e.elim (by omega) fun e => hN _ e (by omega)), h2.chg k3 (fun e => e.elim (by omega) fun e => hN _ e (by omega)), ?_, h5.chg k3 (fun e => e.elim (by omega) fun e => hN _ e (by omega)), hR.chg hTT hb0 hX k2 (fun y e => by have e2 : y = b0 + 3 := e; omega)⟩
   rw [hln]
   exact hs
  obtain ⟨L0, hL0⟩ : ∃ L, catF LL k = L := ⟨_, rfl⟩
  have d0 := h0.cell 0
  simp at d0
  rw [hL0] at hln hl1 h4 hO0 FIN
  replace FIN := Lib.hid FIN
  replace hO0 := Lib.hid hO0
  replace h10 := Lib.hid h10
  replace h4 := Lib.hid h4
  replace hX1 := Lib.hid hX1
  clear h0 h1 h2 h5 h8 h9
  gi_wp2_with (first
   | ((first | (gi_at_call 106) | (refine ⟨trivial, ?_⟩; gi_at_call 106)); refine (CallsIn.inRound l (callsIn_wide.2 D1.out)).mono ?_; rintro e w1 ⟨A1, q1, rfl, hO1, X2, hT2, hc2, hn2⟩; have B5 := h4.out.chg hc2 (fun e => hX1.out _ e (by omega)); have c1 := B5.cell 0; simp at c1; have hO2 := hO0.out.chg hc2 (fun y hy e => h10.out y e hy); replace hO1 := Lib.hid hO1; replace hO2 := Lib.hid hO2)
   | (gi_at_builtin; refine wpListIn_push_list l _ h1c rfl (.tmp 25) (.tmp 26) rfl (b0 + 7) A a L0 L0.length rfl rfl hO2.out A1 q1 (LL k) (LL k).length rfl rfl hO1.out.reads (by omega) (by have := hc2.size; omega) ?_; intro A' c' w' hO3 hp2; have B6 := B5.chg hp2.chg (fun y => by have h7 := (hO2.out.block y).1; have h8 : b0 + 7 ≤ b0 + 3 := h7; omega); have c5 := B6.cell 0; have f5 := B6.frozen 0; simp at c5))
  exact FIN.out w1 A' c' w' X2 hT2 hc2 hn2 hO3 hp2
 case done =>
  rintro W ⟨h3, A, a, h0, h1, h2, h4, h5, h6⟩ hd
  have c0 := h4.cell 0
  have c1 := h1.cell 0
  have c2 := h2.cell 0
  have f1 := h1.frozen 0
  have f2 := h2.frozen 0
  simp at c0 c1 c2
  go_wp2
  obtain ⟨W2, hW2⟩ : ∃ W2, (W.setCell ⟨b0 + 1, 0, none⟩ (.slice A (catF LL p).length a)).setCell ⟨b0 + 2, 0, none⟩ (.int .i64 0) = W2 := ⟨_, rfl⟩
  have k1 : Chg (fun y => y = b0 + 1 ∨ y = b0 + 2) W W2 := by
   rw [← hW2]
   exact Chg.setCell (F := fun y => y = b0 + 1 ∨ y = b0 + 2) (p := ⟨b0 + 2, 0, none⟩) (Chg.setCell (F := fun y => y = b0 + 1 ∨ y = b0 + 2) (p := ⟨b0 + 1, 0, none⟩) (Chg.refl _ _) (fun _ => .inl rfl) _) (fun _ => .inr rfl) _
  have r1 : Blk W2 (b0 + 1) 76 #[.slice A (catF LL p).length a] := by
   have := (h1.set_ 0 (.slice A (catF LL p).length a)).far (p := ⟨b0 + 2, 0, none⟩) (show b0 + 1 ≠ b0 + 2 by omega) (.int .i64 0)
   rw [hW2] at this
   simpa using this
  have r2 : Blk W2 (b0 + 2) 42 #[.int .i64 0] := by
   have := (h2.far (p := ⟨b0 + 1, 0, none⟩) (show b0 + 2 ≠ b0 + 1 by omega) (.slice A (catF LL p).length a)).set_ 0 (.int .i64 0)
   rw [hW2] at this
   simpa using this
  rw [hW2]
  have hd2 : W2.heap[b0 + 5]? = some (.deferred (some [])) := (k1.block (by omega) (by omega)).trans hd
  have k2 := chg_putObj W2 (b0 + 5) (.deferred none)
  have e1 := (r1.chg k2 (fun e => by have e2 : b0 + 1 = b0 + 5 := e; omega)).cell 0
  have e2 := (r2.chg k2 (fun e => by have e2 : b0 + 2 = b0 + 5 := e; omega)).cell 0
  simp at e1 e2
  obtain ⟨h7, X', h8, h9, h10, h11⟩ := (h6.chg hTT hb0 hX k1 (fun y e => by omega)).chg hTT hb0 hX k2 (fun y e => by have e2 : y = b0 + 5 := e; omega)
  refine ⟨by simp, .inl ⟨_, _, rfl, run_takeDeferred hd2, ?_⟩⟩
  exact ⟨.tuple #[.slice A (catF LL p).length a, .int .i64 0], by simp [results, Tryz.results82, go_sem, e1, e2], A, a, rfl, h7.rebase (by omega), X', h8, h9, fun y hy => (h10 y hy).imp id fun h => by omega, h11⟩
end Go.Proofs.YtohapcacckapoaaGreat
namespace Go.Proofs.YtohapcacckapoaaGreat
open Go Go.RowKit
attribute [local go_sem] Oper.semAt_some
end Go.Proofs.YtohapcacckapoaaGreat
