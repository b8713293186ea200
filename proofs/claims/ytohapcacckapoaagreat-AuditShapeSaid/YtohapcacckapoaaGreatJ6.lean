/- A range over a function whose rounds are counted: the caller's law, told by what stands between two rounds. -/
import Derived.RangeFuncNested
import Derived.RangeFuncBound
import Derived.RangeFuncCalls
import Derived.RangeFuncLeaves
import Derived.RangeFuncRecord
import Derived.RangeFuncSeq
import Derived.OrdersHeld
import Derived.OrdersIn
import Derived.OwnWalkIn
import Derived.Test.YtohapcacckapoaaGreatJ2
namespace Go.Proofs.YtohapcacckapoaaGreat
open Go Go.RowKit
def KeepD (D : Nat) (W W' : World) : Prop := W'.heap[D]? = W.heap[D]? ∧ W'.heap[D + 1]? = W.heap[D + 1]?
theorem KeepD.refl (D : Nat) (W : World) : KeepD D W W := ⟨rfl, rfl⟩
theorem KeepD.trans {D : Nat} {A B C : World} (h : KeepD D A B) (k : KeepD D B C) : KeepD D A C := ⟨k.1.trans h.1, k.2.trans h.2⟩
def roundN (D : Nat) (I : Nat → World → Prop) (Ix : Code → World → Prop) (k : Nat) (W : World) : Exit → Act → World → Prop
 | .normal, _, W' => KeepD D W W' ∧ I (k + 1) W'
 | .ret, _, W' => KeepD D W W' ∧ Ix .ret W'
 | _, _, _ => False
def IterN (P : Program) (gf : Nat) (lb : Array Value) (enc : Nat → Value) (N : Nat) (C : World → Prop) : Prop :=
 ∀ (l : Nat) (J : Nat → World → Prop) (Jx : World → Prop) (W : World), (∀ k W1, J k W1 → C W1) →
  (∀ k W1, k < N → J k W1 → YieldAt Fence.wide 7 P l #[enc k] W1 fun e W' => (e = .returned (.bool true) ∧ J (k + 1) W') ∨ (e = .returned (.bool false) ∧ Jx W')) → J 0 W →
  CallsIn Fence.wide 8 P gf (#[.func (.yield l) #[] #[]] ++ lb) W fun e W' => (∃ v, e = .returned v) ∧ (J N W' ∨ Jx W')
theorem wp_rangeN {P : Program} {g : Operand} {ps : Array Tmp} {assign body : Code} {Q : Exit → Act → World → Prop} {a : Act} {w : World} (N : Nat) {D : Nat} (hD : w.heap.size = D)
  {gf : Nat} {lb : Array Value} (hg : a.eval g = .func (.func gf) #[] lb) (eg : ∀ args w, (callFunc gf args).run P w = .ok (.enter gf args) w)
  (enc : Nat → Value) (hps : ps.size = 1) (C : World → Prop) (hit : IterN P gf lb enc N C)
  (I : Nat → World → Prop) (Ix : Code → World → Prop) (hC : ∀ k W, I k W → C W)
  (hI : ∀ k W o o', I k W → W.heap[D + 1]? = some o → o.isCells = false → I k (W.putObj (D + 1) o'))
  (hIx : ∀ c W o o', Ix c W → W.heap[D + 1]? = some o → o.isCells = false → Ix c (W.putObj (D + 1) o'))
  (h0 : ∀ o, I 0 ((w.alloc (.deferred (some []))).alloc o)) (a1 : Nat → Act)
  (hassign : ∀ (l k : Nat) (W : World) (K : Act → World → Prop), K (a1 k) W →
   assign.wpIn (Fence.wide.inRound l) 7 P (Exit.then K (fun _ _ _ => False)) { tmps := (ps.zip #[enc k]).foldl (fun t (p, v) => t.setIfInBounds p v) a.tmps, defers := [] } W)
  (hbody : ∀ (l k : Nat) (W : World) (od ol : Obj), k < N → I k W → W.heap[D]? = some od → od.isCells = false → W.heap[D + 1]? = some ol → ol.isCells = false → body.wpIn (Fence.wide.inRound l) 7 P (roundN D I Ix k W) (a1 k) W)
  (hdone : ∀ (W : World), I N W → W.heap[D]? = some (.deferred (some [])) → Q .normal { a with defers := { target := .collected D, args := #[] } :: a.defers } W)
  (hstop : ∀ (c : Code) (W : World), Ix c W → W.heap[D]? = some (.deferred (some [])) → c.wp P Q { a with defers := { target := .collected D, args := #[] } :: a.defers } W) :
  (Code.rangeFunc g ps assign body).wp P Q a w := by
 refine (wpIn_wide (n := 9)).1 (wpIn_rangeFunc ?_)
 intro fn hfn
 obtain ⟨rec, hrec⟩ : ∃ rec : LoopState → Option Code → Loop, rec = fun st pe => { state := st, pending := pe, fn, tmps := a.tmps, params := ps, assign, body, defers := w.heap.size } := ⟨_, rfl⟩
 have hsz : ((w.alloc (.deferred (some []))).alloc (.loop (rec .ready none))).heap.size = D + 2 := by rw [World.size_alloc, World.size_alloc, hD]
 have hl1 : ((w.alloc (.deferred (some []))).alloc (.loop (rec .ready none))).heap[D + 1]? = some (.loop (rec .ready none)) := by
  have := World.alloc_heap_new (w.alloc (.deferred (some []))) (.loop (rec .ready none))
  rwa [World.size_alloc, hD] at this
 have hd1 : ((w.alloc (.deferred (some []))).alloc (.loop (rec .ready none))).heap[D]? = some (.deferred (some [])) := by
  rw [← hD]
  exact (Below.heap_alloc _ _ _ (by simp)).trans (World.alloc_heap_new w _)
 have hi1 := h0 (.loop (rec .ready none))
 obtain ⟨W1, hW1⟩ : ∃ W1, (w.alloc (.deferred (some []))).alloc (.loop (rec .ready none)) = W1 := ⟨_, rfl⟩
 rw [hW1] at hi1 hd1 hl1 hsz
 refine ⟨w.heap.size + 1, [{ target := .collected w.heap.size, args := #[] }], W1, { target := .fn (.func gf) lb, args := #[.func (.yield (w.heap.size + 1)) #[] #[]] }, W1, gf,
  #[.func (.yield (w.heap.size + 1)) #[] #[]] ++ lb, W1, ?_, ?_, ?_, ?_, fun h => by simp [Fence.wide] at h, ?_⟩
 ·
  rw [← hW1, hrec]
  exact run_enterLoop_outer _ _ _ _ _
 ·
  simp only [resolve, hg]
  simp [go_sem]
 ·
  intro f' _
  trivial
 · simp [invoke, go_sem, eg]
 ·
  rw [hD]
  refine (hit (D + 1) (fun k W => I k W ∧ W.heap[D + 1]? = some (.loop (rec .ready none)) ∧ W.heap[D]? = some (.deferred (some [])))
   (fun W => ∃ c, Ix c W ∧ W.heap[D + 1]? = some (.loop (rec .done (some c))) ∧ W.heap[D]? = some (.deferred (some []))) _ (fun k W1 h => hC k W1 h.1) ?_ ?_).mono ?_
  ·
   rintro k W hk ⟨hi, hl, hd⟩
   have hlt : D + 1 < W.heap.size := (Array.getElem?_eq_some_iff.1 hl).1
   have hy := run_yield (P := P) (args := #[enc k]) hl (by rw [hrec]; exact hps.symm)
   rw [hrec] at hy
   refine ⟨fn, _, assign, body, hy, roundIn_of_wpIn trivial (hassign _ k W _ ⟨_, run_beginRound hl (by rw [hrec]), ?_⟩)⟩
   obtain ⟨ob, hob⟩ : ∃ o : Loop, { rec .ready none with state := .busy } = o := ⟨_, rfl⟩
   rw [hob]
   have hl2 : (W.putObj (D + 1) (.loop ob)).heap[D + 1]? = some (.loop ob) := World.putObj_heap_same hlt
   have hd2 : (W.putObj (D + 1) (.loop ob)).heap[D]? = some (.deferred (some [])) := (World.putObj_heap_other (by omega)).trans hd
   refine wpIn_mono (hbody _ k _ _ _ hk (hI k W _ _ hi hl rfl) hd2 rfl hl2 rfl) ?_
   rintro e a3 W3 hp
   have fin : ∀ (jump : Option Code), KeepD D (W.putObj (D + 1) (.loop ob)) W3 →
     (Instr.endRound (D + 1) jump).run P W3 = .ok (.bool jump.isNone) (W3.putObj (D + 1) (.loop (rec (if jump.isNone then .ready else .done) jump))) ∧ W3.heap[D + 1]? = some (.loop ob) ∧
     (W3.putObj (D + 1) (.loop (rec (if jump.isNone then .ready else .done) jump))).heap[D + 1]? = some (.loop (rec (if jump.isNone then .ready else .done) jump)) ∧
     (W3.putObj (D + 1) (.loop (rec (if jump.isNone then .ready else .done) jump))).heap[D]? = some (.deferred (some [])) := fun jump hk3 => by
    have hl3 := hk3.2.trans hl2
    have hr := run_endRound (P := P) jump hl3
    rw [← hob, hrec] at hr
    refine ⟨by rw [hr, hrec], hl3, World.putObj_heap_same (Array.getElem?_eq_some_iff.1 hl3).1, (World.putObj_heap_other (by omega)).trans (hk3.1.trans hd2)⟩
   cases e with
   | normal =>
    obtain ⟨hr, hl3, hl4, hk4⟩ := fin none hp.1
    exact ⟨_, _, hr, .inl ⟨rfl, hI _ _ _ _ hp.2 hl3 rfl, hl4, hk4⟩⟩
   | ret =>
    obtain ⟨hr, hl3, hl4, hk4⟩ := fin (some .ret) hp.1
    exact ⟨_, _, hr, .inr ⟨rfl, .ret, hIx _ _ _ _ hp.2 hl3 rfl, hl4, hk4⟩⟩
   | exit id => exact hp.elim
   | goto t => exact hp.elim
   | panic ch => exact hp.elim
   | outgrown => exact hp.elim
  · exact ⟨hi1, hl1, hd1⟩
  ·
   rintro e W2 ⟨⟨v, rfl⟩, (⟨hi, hl, hd⟩ | ⟨c, hi, hl, hd⟩)⟩
   ·
    have hr := run_endLoop (P := P) hl (by rw [hrec]; simp)
    rw [hrec] at hr
    exact ⟨none, _, hr, hdone _ (hI _ _ _ _ hi hl rfl) ((World.putObj_heap_other (by omega)).trans hd)⟩
   ·
    have hr := run_endLoop (P := P) hl (by rw [hrec]; simp)
    rw [hrec] at hr
    exact ⟨some c, _, hr, (wpIn_wide (n := 9)).2 (hstop c _ (hIx _ _ _ _ hi hl rfl) ((World.putObj_heap_other (by omega)).trans hd))⟩
theorem operIn {P : Program} {o : Oper} {a : Act} {w : World} {K : Act → World → Prop} {Q : Exit → Act → World → Prop} (l n : Nat) (hd : ∀ c, o.op ≠ .defer c) (h : o.wp P a w K Q) : o.wpIn (Fence.wide.inRound l) n P a w K Q := by
 unfold Oper.wpIn
 refine ⟨fun _ _ => trivial, ?_⟩
 rw [Oper.semAt_plain (Fence.wide.inRound l) _ _ hd]
 unfold Oper.wp at h
 generalize (execOp a.eval o).run P w = r at *
 cases r with
 | ok x w' =>
  cases x with
  | value v => exact h
  | skip => exact h
  | defer d => exact h
  | enter f args => exact ⟨fun h => by simp [Fence.wide] at h, CallsIn.inRound l (callsIn_wide.2 h)⟩
  | row r args =>
   refine ⟨fun h => by simp [Fence.wide] at h, fun c cs _ => ?_⟩
   obtain ⟨v, w1, h1, h2⟩ := h c cs
   exact ⟨v, w1, h1, stepsIn_wide.2 h2⟩
  | _ => exact h.elim
 | halt x w' =>
  cases x <;> exact h
theorem opIn {P : Program} {ops : Array Oper} {Q : Exit → Act → World → Prop} {i : Nat} {K K' : Act → World → Prop} {a : Act} {w : World} (l n : Nat) (hd : ∀ o ∈ ops, ∀ c, o.op ≠ .defer c) (hQ : ¬ LetsOut Q) (hK : ∀ a w, K a w → K' a w) (h : wpOp P ops Q i K a w) : wpOpIn (Fence.wide.inRound l) n P ops Q i K' a w := by
 unfold wpOp at h
 unfold wpOpIn
 cases ho : ops[i]? with
 | none =>
  rw [ho] at h
  exact hK _ _ h
 | some o =>
  rw [ho] at h
  dsimp only at h ⊢
  split
  ·
   next hw =>
   rw [if_pos hw] at h
   rcases h with h | h
   · exact operIn l n (hd o (Array.mem_of_getElem? ho)) (Oper.wp_mono hK h)
   · exact absurd h.2 hQ
  ·
   next hw =>
   rw [if_neg hw] at h
   exact ⟨fun _ _ => trivial, hK _ _ h⟩
def noDefer (os : List Oper) : Bool := os.all fun o => match o.op with | .defer _ => false | _ => true
theorem noDefer_all {os : List Oper} (h : noDefer os = true) : ∀ o ∈ os, ∀ c, o.op ≠ .defer c := fun o ho c e => by
 have := List.all_eq_true.1 h o ho
 rw [e] at this
 cases this
theorem anyIn {P : Program} {md : Region.Mode} {ops : Array Oper} {Q : Exit → Act → World → Prop} (l n : Nat) (hd : ∀ o ∈ ops, ∀ c, o.op ≠ .defer c) (hQ : ¬ LetsOut Q) : ∀ (fuel : Nat) (listed : Array Bool) (a : Act) (w : World), wpAny P md ops Q fuel listed a w → wpAnyIn (Fence.wide.inRound l) n P md ops Q fuel listed a w
 | 0, _, _, _, h => h
 | fuel + 1, _, _, _, h => ⟨h.1, fun i hi => opIn l n hd hQ (fun a' w' h' => anyIn l n hd hQ fuel _ a' w' h') (h.2 i hi)⟩
theorem wpIn_region_drawn {P : Program} {os : List Oper} {Q : Exit → Act → World → Prop} (l n : Nat) {id : Nat} {a : Act} {w : World} (hm : P.follows .mixedOrders = true) (hd : noDefer os = true) (hQ : ¬ LetsOut Q)
  (h : wpAny P .any os.toArray Q os.toArray.size (Array.replicate os.toArray.size false) a w.drew) : (Code.region id os.toArray true).wpIn (Fence.wide.inRound l) n P Q a w :=
 wpIn_region_any hm (anyIn l n (fun o ho => noDefer_all hd o (by simpa using ho)) hQ _ _ _ _ h)
end Go.Proofs.YtohapcacckapoaaGreat
