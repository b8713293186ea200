/- Plain: what is read of a line's words, one by one. script.act: between reads. script.act: kinds 0, 1, 2. script.act: kinds 3, 4, 5. -/
import Derived.Test.YtodbgjnccngljaaGreatDoorJ19
import Derived.Test.YtodbgjnccngljaaGreatDoorJ10
namespace Go.Proofs.YtodbgjnccngljaaGreatDoor
open Go Go.RowKit Go.Deep
def seqT {α β : Type} (p : List UInt8 → Option α) (r : List (List UInt8)) (k : α → List (List UInt8) → Option β) : Option β := match takeP p r with
 | none => none
 | some (v, r1) => k v r1
def endT (x : ActL) (r : List (List UInt8)) : Option ActL := if r.isEmpty then some x else none
theorem bind_congr2 {α β : Type} {o : Option α} {f g : α → Option β} (h : ∀ a, f a = g a) : o.bind f = o.bind g := by
 cases o
 · rfl
 · exact h _
theorem map_bind {α β : Type} (o : Option α) (f : α → β) : o.map f = o.bind fun a => some (f a) := by cases o <;> rfl
theorem bind_none2 {α β : Type} (o : Option α) : (o.bind fun _ => (none : Option β)) = none := by cases o <;> rfl
theorem seqT_nil {α β : Type} (p : List UInt8 → Option α) (k : α → List (List UInt8) → Option β) : seqT p [] k = none := rfl
theorem seqT_cons {α β : Type} (p : List UInt8 → Option α) (x : List UInt8) (r : List (List UInt8)) (k : α → List (List UInt8) → Option β) : seqT p (x :: r) k = (p x).bind fun v => k v r := by
 have h : takeP p (x :: r) = (p x).map fun v => (v, r) := rfl
 unfold seqT
 rw [h]
 cases p x <;> rfl
theorem args_seq0 (r : List (List UInt8)) : argsP 0 r = seqT numP r fun x r1 => seqT (fun x => digP x 18446744073709551615) r1 fun y r2 => seqT (fun x => digP x 18446744073709551615) r2 fun z r3 => seqT bytesP r3 fun s r4 => endT ⟨0, x, 0, 0, s, y, z, false, false, 0, 0, 0, 0⟩ r4 := by
 rcases r with _ | ⟨p0, _ | ⟨p1, _ | ⟨p2, _ | ⟨p3, _ | ⟨q, t⟩⟩⟩⟩⟩
 · rfl
 ·
  simp only [seqT_cons, seqT_nil, bind_none2]
  rfl
 ·
  simp only [seqT_cons, seqT_nil, bind_none2]
  rfl
 ·
  simp only [seqT_cons, seqT_nil, bind_none2]
  rfl
 ·
  simp only [seqT_cons, endT, List.isEmpty_nil, if_true]
  simp only [argsP]
  repeat (first | rfl | (apply bind_congr2; intro))
  all_goals first | rfl | exact map_bind _ _
 ·
  simp only [seqT_cons, endT, List.isEmpty_cons, Bool.false_eq_true, if_false, bind_none2]
  rfl
theorem args_seq1 (r : List (List UInt8)) : argsP 1 r = seqT numP r fun x r1 => seqT bytesP r1 fun s r2 => endT ⟨1, 0, x, 0, s, 0, 0, false, false, 0, 0, 0, 0⟩ r2 := by
 rcases r with _ | ⟨p0, _ | ⟨p1, _ | ⟨q, t⟩⟩⟩
 · rfl
 ·
  simp only [seqT_cons, seqT_nil, bind_none2]
  rfl
 ·
  simp only [seqT_cons, endT, List.isEmpty_nil, if_true]
  simp only [argsP]
  repeat (first | rfl | (apply bind_congr2; intro))
  all_goals first | rfl | exact map_bind _ _
 ·
  simp only [seqT_cons, endT, List.isEmpty_cons, Bool.false_eq_true, if_false, bind_none2]
  rfl
theorem args_seq2 (r : List (List UInt8)) : argsP 2 r = seqT numP r fun x r1 => seqT readA r1 fun a r2 => endT ⟨2, 0, 0, x, [], 0, 0, false, a.1, a.2.1, a.2.2, 0, 0⟩ r2 := by
 rcases r with _ | ⟨p0, _ | ⟨p1, _ | ⟨q, t⟩⟩⟩
 · rfl
 ·
  simp only [seqT_cons, seqT_nil, bind_none2]
  rfl
 ·
  simp only [seqT_cons, endT, List.isEmpty_nil, if_true]
  simp only [argsP]
  repeat (first | rfl | (apply bind_congr2; intro))
  all_goals first | rfl | exact map_bind _ _
 ·
  simp only [seqT_cons, endT, List.isEmpty_cons, Bool.false_eq_true, if_false, bind_none2]
  rfl
theorem args_seq3 (r : List (List UInt8)) : argsP 3 r = seqT numP r fun x r1 => endT ⟨3, 0, x, 0, [], 0, 0, false, false, 0, 0, 0, 0⟩ r1 := by
 rcases r with _ | ⟨p0, _ | ⟨q, t⟩⟩
 · rfl
 ·
  simp only [seqT_cons, endT, List.isEmpty_nil, if_true]
  simp only [argsP]
  repeat (first | rfl | (apply bind_congr2; intro))
  all_goals first | rfl | exact map_bind _ _
 ·
  simp only [seqT_cons, endT, List.isEmpty_cons, Bool.false_eq_true, if_false, bind_none2]
  rfl
theorem args_seq4 (r : List (List UInt8)) : argsP 4 r = seqT numP r fun x r1 => seqT onP r1 fun b r2 => endT ⟨4, 0, x, 0, [], 0, 0, b, false, 0, 0, 0, 0⟩ r2 := by
 rcases r with _ | ⟨p0, _ | ⟨p1, _ | ⟨q, t⟩⟩⟩
 · rfl
 ·
  simp only [seqT_cons, seqT_nil, bind_none2]
  rfl
 ·
  simp only [seqT_cons, endT, List.isEmpty_nil, if_true]
  simp only [argsP]
  repeat (first | rfl | (apply bind_congr2; intro))
  all_goals first | rfl | exact map_bind _ _
 ·
  simp only [seqT_cons, endT, List.isEmpty_cons, Bool.false_eq_true, if_false, bind_none2]
  rfl
theorem args_seq5 (r : List (List UInt8)) : argsP 5 r = seqT numP r fun x r1 => seqT numP r1 fun y r2 => endT ⟨5, 0, x, y, [], 0, 0, false, false, 0, 0, 0, 0⟩ r2 := by
 rcases r with _ | ⟨p0, _ | ⟨p1, _ | ⟨q, t⟩⟩⟩
 · rfl
 ·
  simp only [seqT_cons, seqT_nil, bind_none2]
  rfl
 ·
  simp only [seqT_cons, endT, List.isEmpty_nil, if_true]
  simp only [argsP]
  repeat (first | rfl | (apply bind_congr2; intro))
  all_goals first | rfl | exact map_bind _ _
 ·
  simp only [seqT_cons, endT, List.isEmpty_cons, Bool.false_eq_true, if_false, bind_none2]
  rfl
theorem args_seq6 (r : List (List UInt8)) : argsP 6 r = seqT numP r fun x r1 => seqT onP r1 fun b r2 => endT ⟨6, 0, x, 0, [], 0, 0, b, false, 0, 0, 0, 0⟩ r2 := by
 rcases r with _ | ⟨p0, _ | ⟨p1, _ | ⟨q, t⟩⟩⟩
 · rfl
 ·
  simp only [seqT_cons, seqT_nil, bind_none2]
  rfl
 ·
  simp only [seqT_cons, endT, List.isEmpty_nil, if_true]
  simp only [argsP]
  repeat (first | rfl | (apply bind_congr2; intro))
  all_goals first | rfl | exact map_bind _ _
 ·
  simp only [seqT_cons, endT, List.isEmpty_cons, Bool.false_eq_true, if_false, bind_none2]
  rfl
theorem args_seq7 (r : List (List UInt8)) : argsP 7 r = seqT numP r fun x r1 => seqT numP r1 fun y r2 => endT ⟨7, 0, 0, 0, [], 0, 0, false, false, 0, 0, x, y⟩ r2 := by
 rcases r with _ | ⟨p0, _ | ⟨p1, _ | ⟨q, t⟩⟩⟩
 · rfl
 ·
  simp only [seqT_cons, seqT_nil, bind_none2]
  rfl
 ·
  simp only [seqT_cons, endT, List.isEmpty_nil, if_true]
  simp only [argsP]
  repeat (first | rfl | (apply bind_congr2; intro))
  all_goals first | rfl | exact map_bind _ _
 ·
  simp only [seqT_cons, endT, List.isEmpty_cons, Bool.false_eq_true, if_false, bind_none2]
  rfl
theorem args_seq8 (r : List (List UInt8)) : argsP 8 r = seqT onP r fun b r1 => endT ⟨8, 0, 0, 0, [], 0, 0, b, false, 0, 0, 0, 0⟩ r1 := by
 rcases r with _ | ⟨p0, _ | ⟨q, t⟩⟩
 · rfl
 ·
  simp only [seqT_cons, endT, List.isEmpty_nil, if_true]
  simp only [argsP]
  repeat (first | rfl | (apply bind_congr2; intro))
  all_goals first | rfl | exact map_bind _ _
 ·
  simp only [seqT_cons, endT, List.isEmpty_cons, Bool.false_eq_true, if_false, bind_none2]
  rfl
theorem args_seq9 (r : List (List UInt8)) : argsP 9 r = seqT numP r fun x r1 => endT ⟨9, x, 0, 0, [], 0, 0, false, false, 0, 0, 0, 0⟩ r1 := by
 rcases r with _ | ⟨p0, _ | ⟨q, t⟩⟩
 · rfl
 ·
  simp only [seqT_cons, endT, List.isEmpty_nil, if_true]
  simp only [argsP]
  repeat (first | rfl | (apply bind_congr2; intro))
  all_goals first | rfl | exact map_bind _ _
 ·
  simp only [seqT_cons, endT, List.isEmpty_cons, Bool.false_eq_true, if_false, bind_none2]
  rfl
theorem args_seq10 (r : List (List UInt8)) : argsP 10 r = seqT numP r fun x r1 => endT ⟨10, x, 0, 0, [], 0, 0, false, false, 0, 0, 0, 0⟩ r1 := by
 rcases r with _ | ⟨p0, _ | ⟨q, t⟩⟩
 · rfl
 ·
  simp only [seqT_cons, endT, List.isEmpty_nil, if_true]
  simp only [argsP]
  repeat (first | rfl | (apply bind_congr2; intro))
  all_goals first | rfl | exact map_bind _ _
 ·
  simp only [seqT_cons, endT, List.isEmpty_cons, Bool.false_eq_true, if_false, bind_none2]
  rfl
theorem args_seq11 (r : List (List UInt8)) : argsP 11 r = seqT numP r fun x r1 => endT ⟨11, 0, 0, x, [], 0, 0, false, false, 0, 0, 0, 0⟩ r1 := by
 rcases r with _ | ⟨p0, _ | ⟨q, t⟩⟩
 · rfl
 ·
  simp only [seqT_cons, endT, List.isEmpty_nil, if_true]
  simp only [argsP]
  repeat (first | rfl | (apply bind_congr2; intro))
  all_goals first | rfl | exact map_bind _ _
 ·
  simp only [seqT_cons, endT, List.isEmpty_cons, Bool.false_eq_true, if_false, bind_none2]
  rfl
abbrev actCs (x : ActL) : Array Value := #[.int .i64 x.k, .int .i64 x.at_, .int .i64 x.id, .int .i64 x.n, .string ⟨x.s.toArray⟩, .int .u64 ((x.a : Nat) : Int), .int .u64 ((x.b : Nat) : Int), .bool x.on, .bool x.v6, .int .u64 ((x.hi : Nat) : Int), .int .u64 ((x.lo : Nat) : Int), .int .i64 x.pk, .int .i64 x.ps]
def actE : Option ActL → Ending
 | some x => .returned (.agg (actCs x))
 | none => thrown
structure AInv (W1 W : World) (g b2 b4 : Nat) (ws : List (List UInt8)) (cs z : Array Value) : Prop where
 k : Chg (· = g) W1 W
 c : Cur W g ws
 b : Blk W b4 34 cs
 r : Blk W b2 34 z
theorem take_sp {α : Type} {p : List UInt8 → Option α} {ws r : List (List UInt8)} {v : α} (h : takeP p ws = some (v, r)) (hs : ∀ x ∈ ws, (32 : UInt8) ∉ x) (hl : (restL ws).length ≤ 10000) : (∀ x ∈ r, (32 : UInt8) ∉ x) ∧ (restL r).length ≤ 10000 := by
 cases ws with
 | nil => cases h
 | cons x t =>
  obtain ⟨y, -, hy⟩ := Option.map_eq_some_iff.1 (show (p x).map (fun v => (v, t)) = some (v, r) from h)
  cases hy
  refine ⟨fun y hy => hs y (List.mem_cons_of_mem _ hy), ?_⟩
  refine Nat.le_trans ?_ hl
  unfold restL
  cases r with
  | nil => exact Nat.zero_le _
  | cons a t => rw [join_cons2]; simp; omega
theorem read_step {α : Type} {f : FuncId} {p : List UInt8 → Option α} {val : α → Value} (R : CReads f p val) {W1 W : World} {g b2 b4 : Nat} {ws : List (List UInt8)} {cs z : Array Value} (hI : AInv W1 W g b2 b4 ws cs z)
  (hS : ∀ w1, Chg (· = g) W1 w1 → Std w1) (h2 : ¬ b2 = g) (h4 : ¬ b4 = g) (hs : ∀ x ∈ ws, (32 : UInt8) ∉ x) (hl : (restL ws).length ≤ 10000) :
  Calls Tryz.prog f #[.pointer (some ⟨g, 0, none⟩)] W fun e w' => match takeP p ws with
   | some (v, r) => e = .returned (val v) ∧ AInv W1 w' g b2 b4 r cs z
   | none => e = thrown ∧ Chg (· = g) W1 w' := by
 refine (R g ws W (hS W hI.k) hI.c hs hl (fun w1 h => hS w1 (hI.k.trans h (fun _ _ h => h)))).mono ?_
 rintro e w' ⟨hk, hm⟩
 cases ht : takeP p ws with
 | none =>
  rw [ht] at hm
  exact ⟨hm, hI.k.trans hk (fun _ _ h => h)⟩
 | some y =>
  obtain ⟨v, r⟩ := y
  rw [ht] at hm
  exact ⟨hm.1, hI.k.trans hk (fun _ _ h => h), hm.2, hI.b.chg hk h4, hI.r.chg hk h2⟩
theorem read_no {α : Type} {f : FuncId} {p : List UInt8 → Option α} {val : α → Value} (R : CReads f p val) {W1 : World} {g b2 b4 : Nat} {ws : List (List UInt8)} {cs z : Array Value}
  (hS : ∀ w1, Chg (· = g) W1 w1 → Std w1) (h2 : ¬ b2 = g) (h4 : ¬ b4 = g) (hs : ∀ x ∈ ws, (32 : UInt8) ∉ x) (hl : (restL ws).length ≤ 10000) (ht : takeP p ws = none) (W : World) (hI : AInv W1 W g b2 b4 ws cs z) :
  Calls Tryz.prog f #[.pointer (some ⟨g, 0, none⟩)] W fun e w' => e = thrown ∧ Chg (· = g) W1 w' := by
 have := read_step R hI hS h2 h4 hs hl
 simp only [ht] at this
 exact this
theorem read_yes {α : Type} {f : FuncId} {p : List UInt8 → Option α} {val : α → Value} (R : CReads f p val) {W1 : World} {g b2 b4 : Nat} {ws r : List (List UInt8)} {v : α} {cs z : Array Value}
  (hS : ∀ w1, Chg (· = g) W1 w1 → Std w1) (h2 : ¬ b2 = g) (h4 : ¬ b4 = g) (hs : ∀ x ∈ ws, (32 : UInt8) ∉ x) (hl : (restL ws).length ≤ 10000) (ht : takeP p ws = some (v, r)) (W : World) (hI : AInv W1 W g b2 b4 ws cs z) :
  Calls Tryz.prog f #[.pointer (some ⟨g, 0, none⟩)] W fun e w' => e = .returned (val v) ∧ AInv W1 w' g b2 b4 r cs z := by
 have := read_step R hI hS h2 h4 hs hl
 simp only [ht] at this
 exact this
theorem Blk.setAt {w : World} {g : Nat} {t : TypeId} {cs : Array Value} (h : Blk w g t cs) (i : Nat) (v : Value) : Blk (w.setCell ⟨g, i, none⟩ v) g t (cs.setIfInBounds i v) := by
 unfold Blk at h ⊢
 simp [World.setCell, Array.getElem?_modify, h]
theorem Blk.setOff {w : World} {g b : Nat} {t : TypeId} {cs : Array Value} (h : Blk w g t cs) (hb : ¬ b = g) (i : Nat) (v : Value) : Blk (w.setCell ⟨b, i, none⟩ v) g t cs := by
 unfold Blk at h ⊢
 simp [World.setCell, Array.getElem?_modify, h, hb]
theorem AInv.set {W1 W : World} {g b2 b4 : Nat} {ws : List (List UInt8)} {cs z : Array Value} (h : AInv W1 W g b2 b4 ws cs z) (h4 : ¬ b4 = g) (h42 : ¬ b4 = b2) (hb : W1.heap.size ≤ b4) (i : Nat) (v : Value) :
  AInv W1 (W.setCell ⟨b4, i, none⟩ v) g b2 b4 ws (cs.setIfInBounds i v) z :=
 ⟨h.k.setCell (fun hh => absurd hh (by show ¬ b4 < W1.heap.size; omega)) _, Blk.setOff h.c h4 i v, h.b.setAt i v, h.r.setOff h42 i v⟩
theorem below_cur {w W1 W : World} {g : Nat} (hb : Below w.heap.size w W1) (hk : Chg (· = g) W1 W) (hg : w.heap.size ≤ g) : Below w.heap.size w W :=
 hb.trans (hk.below (fun b hb h => by omega) hb.size)
set_option maxRecDepth 100000 in
set_option maxHeartbeats 16000000 in
theorem scr_act0 (l : List UInt8) (wd : List UInt8) (r : List (List UInt8)) (w : World) (hw : Std w) (hL : l.length ≤ 10000) (hp : parts 32 l = wd :: r) (hkd : kindP wd = some 0) :
  Calls Tryz.prog 30 #[.string ⟨l.toArray⟩] w fun e w' => e = actE (argsP 0 r) ∧ Below w.heap.size w w' := by
 rw [args_seq0]
 have hj : restL (wd :: r) = l := by unfold restL; rw [← hp]; exact join_parts 32 l
 have hsp : ∀ x ∈ wd :: r, (32 : UInt8) ∉ x := by rw [← hp]; exact not_mem_parts 32 l
 have hl0 : (restL (wd :: r)).length ≤ 10000 := by rw [hj]; exact hL
 obtain ⟨w1, hw1⟩ : ∃ w1, w1 = (w.alloc (.cells #[.int .i64 0, .int .i64 0, .int .i64 0, .int .i64 0, .string ⟨#[]⟩, .int .u64 0, .int .u64 0, .bool false, .bool false, .int .u64 0, .int .u64 0, .int .i64 0, .int .i64 0] 34)).alloc (.cells #[.string ⟨l.toArray⟩, .bool true] 95) := ⟨_, rfl⟩
 have hb1 : Below w.heap.size w w1 := hw1 ▸ below_alloc (below_alloc (Below.refl _ _) _) _
 have hs1 : w1.heap.size = w.heap.size + 2 := by rw [hw1]; simp
 have hc1 : Cur w1 (w.heap.size + 1) (wd :: r) := by
  unfold Cur
  rw [hj, hw1]
  have := Blk.new (w.alloc (.cells #[.int .i64 0, .int .i64 0, .int .i64 0, .int .i64 0, .string ⟨#[]⟩, .int .u64 0, .int .u64 0, .bool false, .bool false, .int .u64 0, .int .u64 0, .int .i64 0, .int .i64 0] 34)) 95 #[.string ⟨l.toArray⟩, .bool true]
  rw [show (w.alloc (.cells #[.int .i64 0, .int .i64 0, .int .i64 0, .int .i64 0, .string ⟨#[]⟩, .int .u64 0, .int .u64 0, .bool false, .bool false, .int .u64 0, .int .u64 0, .int .i64 0, .int .i64 0] 34)).heap.size = w.heap.size + 1 by simp] at this
  exact this
 have hr1 : Blk w1 w.heap.size 34 #[.int .i64 0, .int .i64 0, .int .i64 0, .int .i64 0, .string ⟨#[]⟩, .int .u64 0, .int .u64 0, .bool false, .bool false, .int .u64 0, .int .u64 0, .int .i64 0, .int .i64 0] := by rw [hw1]; exact (Blk.new w 34 #[.int .i64 0, .int .i64 0, .int .i64 0, .int .i64 0, .string ⟨#[]⟩, .int .u64 0, .int .u64 0, .bool false, .bool false, .int .u64 0, .int .u64 0, .int .i64 0, .int .i64 0]).alloc _
 have hS : ∀ W, Chg (· = w.heap.size + 1) w1 W → Std W := fun W h => hw.below (below_cur hb1 h (by omega))
 have KK := reads_kind (w.heap.size + 1) (wd :: r) w1 (hw.below hb1) hc1 hsp hl0 hS
 have ht : takeP kindP (wd :: r) = some (0, r) := by show (kindP wd).map (fun v => (v, r)) = _; rw [hkd]; rfl
 have hsp' := (take_sp ht hsp hl0).1
 have hl' := (take_sp ht hsp hl0).2
 simp only [ht] at KK
 replace KK := Lib.hid (show Calls Tryz.prog 54 #[.pointer (some ⟨w.heap.size + 1, 0, none⟩)] w1 fun e w' => Chg (· = w.heap.size + 1) w1 w' ∧ e = .returned (.int .i64 0) ∧ Cur w' (w.heap.size + 1) r from KK)
 replace hS := Lib.hid hS
 clear ht hsp hl0 hkd hc1
 replace hp := Lib.hid hp
 replace hj := Lib.hid hj
 replace hL := Lib.hid hL
 go_enter Tryz.func30, Tryz.ntmps30
 go_upto_region 2 with fail
 rw [← hw1]
 clear hw1
 have h2g : ¬ w.heap.size = w.heap.size + 1 := by omega
 replace hb1 := Lib.hid hb1
 replace h2g := Lib.hid h2g
 go_upto_region 3 with (go_at_call 54; (refine KK.out.mono ?_); rintro e w2 ⟨hk2, rfl, hc2⟩)
 have hb4 : w1.heap.size ≤ w2.heap.size := hk2.size
 have hI : AInv w1 (w2.alloc (.cells #[.int .i64 0, .int .i64 0, .int .i64 0, .int .i64 0, .string ⟨#[]⟩, .int .u64 0, .int .u64 0, .bool false, .bool false, .int .u64 0, .int .u64 0, .int .i64 0, .int .i64 0] 34)) (w.heap.size + 1) w.heap.size w2.heap.size r #[.int .i64 0, .int .i64 0, .int .i64 0, .int .i64 0, .string ⟨#[]⟩, .int .u64 0, .int .u64 0, .bool false, .bool false, .int .u64 0, .int .u64 0, .int .i64 0, .int .i64 0] #[.int .i64 0, .int .i64 0, .int .i64 0, .int .i64 0, .string ⟨#[]⟩, .int .u64 0, .int .u64 0, .bool false, .bool false, .int .u64 0, .int .u64 0, .int .i64 0, .int .i64 0] := ⟨hk2.alloc _, Blk.alloc hc2 _, Blk.new _ _ _, (hr1.chg hk2 h2g.out).alloc _⟩
 clear hk2 hc2 hr1
 generalize w2.alloc (.cells #[.int .i64 0, .int .i64 0, .int .i64 0, .int .i64 0, .string ⟨#[]⟩, .int .u64 0, .int .u64 0, .bool false, .bool false, .int .u64 0, .int .u64 0, .int .i64 0, .int .i64 0] 34) = w3 at *
 generalize w2.heap.size = b4 at *
 have h4g : ¬ b4 = w.heap.size + 1 := by omega
 have h42 : ¬ b4 = w.heap.size := by omega
 have c0 : w3.cell? ⟨b4, 0, none⟩ = some (.int .i64 0) := hI.b.cell 0
 replace hb4 := Lib.hid hb4
 clear hs1
 go_upto_region 5 with fail
 cases h0 : takeP numP r with
 | none =>
  have R0 := Lib.hid (read_no (z := #[.int .i64 0, .int .i64 0, .int .i64 0, .int .i64 0, .string ⟨#[]⟩, .int .u64 0, .int .u64 0, .bool false, .bool false, .int .u64 0, .int .u64 0, .int .i64 0, .int .i64 0]) (cs := #[.int .i64 0, .int .i64 0, .int .i64 0, .int .i64 0, .string ⟨#[]⟩, .int .u64 0, .int .u64 0, .bool false, .bool false, .int .u64 0, .int .u64 0, .int .i64 0, .int .i64 0]) reads_number hS.out h2g.out h4g hsp' hl' h0)
  go_wp2_with (first
   | (go_at_call 55; (with_reducible refine (R0.out _ hI).mono ?_); rintro e wn ⟨rfl, hkn⟩))
  exact ⟨rfl, by simp only [seqT, h0]; rfl, below_cur hb1.out hkn (by omega)⟩
 | some v0 =>
  obtain ⟨y0, r1⟩ := v0
  obtain ⟨hsp1, hl1⟩ := take_sp h0 hsp' hl'
  have R0 := Lib.hid (read_yes (z := #[.int .i64 0, .int .i64 0, .int .i64 0, .int .i64 0, .string ⟨#[]⟩, .int .u64 0, .int .u64 0, .bool false, .bool false, .int .u64 0, .int .u64 0, .int .i64 0, .int .i64 0]) (cs := #[.int .i64 0, .int .i64 0, .int .i64 0, .int .i64 0, .string ⟨#[]⟩, .int .u64 0, .int .u64 0, .bool false, .bool false, .int .u64 0, .int .u64 0, .int .i64 0, .int .i64 0]) reads_number hS.out h2g.out h4g hsp' hl' h0)
  cases h1 : takeP (fun x => digP x 18446744073709551615) r1 with
  | none =>
   have R1 := Lib.hid (read_no (z := #[.int .i64 0, .int .i64 0, .int .i64 0, .int .i64 0, .string ⟨#[]⟩, .int .u64 0, .int .u64 0, .bool false, .bool false, .int .u64 0, .int .u64 0, .int .i64 0, .int .i64 0]) (cs := #[.int .i64 0, .int .i64 0, .int .i64 0, .int .i64 0, .string ⟨#[]⟩, .int .u64 0, .int .u64 0, .bool false, .bool false, .int .u64 0, .int .u64 0, .int .i64 0, .int .i64 0]) reads_draw hS.out h2g.out h4g hsp1 hl1 h1)
   go_wp2_with (first
    | (go_at_call 55; (with_reducible refine (R0.out _ hI).mono ?_); rintro e w4 ⟨rfl, hI1⟩)
    | (go_at_call 56; (with_reducible refine (R1.out _ hI1).mono ?_); rintro e wn ⟨rfl, hkn⟩))
   exact ⟨rfl, by simp only [seqT, h0, h1]; rfl, below_cur hb1.out hkn (by omega)⟩
  | some v1 =>
   obtain ⟨y1, r2⟩ := v1
   obtain ⟨hsp2, hl2⟩ := take_sp h1 hsp1 hl1
   have R1 := Lib.hid (read_yes (z := #[.int .i64 0, .int .i64 0, .int .i64 0, .int .i64 0, .string ⟨#[]⟩, .int .u64 0, .int .u64 0, .bool false, .bool false, .int .u64 0, .int .u64 0, .int .i64 0, .int .i64 0]) (cs := #[.int .i64 0, .int .i64 0, .int .i64 0, .int .i64 0, .string ⟨#[]⟩, .int .u64 0, .int .u64 0, .bool false, .bool false, .int .u64 0, .int .u64 0, .int .i64 0, .int .i64 0]) reads_draw hS.out h2g.out h4g hsp1 hl1 h1)
   cases h2 : takeP (fun x => digP x 18446744073709551615) r2 with
   | none =>
    have R2 := Lib.hid (read_no (z := #[.int .i64 0, .int .i64 0, .int .i64 0, .int .i64 0, .string ⟨#[]⟩, .int .u64 0, .int .u64 0, .bool false, .bool false, .int .u64 0, .int .u64 0, .int .i64 0, .int .i64 0]) (cs := #[.int .i64 0, .int .i64 0, .int .i64 0, .int .i64 0, .string ⟨#[]⟩, .int .u64 0, .int .u64 0, .bool false, .bool false, .int .u64 0, .int .u64 0, .int .i64 0, .int .i64 0]) reads_draw hS.out h2g.out h4g hsp2 hl2 h2)
    go_wp2_with (first
     | (go_at_call 55; (with_reducible refine (R0.out _ hI).mono ?_); rintro e w4 ⟨rfl, hI1⟩)
     | (go_at_call 56; (with_reducible refine (R1.out _ hI1).mono ?_); rintro e w5 ⟨rfl, hI2⟩)
     | (go_at_call 56; (with_reducible refine (R2.out _ hI2).mono ?_); rintro e wn ⟨rfl, hkn⟩))
    exact ⟨rfl, by simp only [seqT, h0, h1, h2]; rfl, below_cur hb1.out hkn (by omega)⟩
   | some v2 =>
    obtain ⟨y2, r3⟩ := v2
    obtain ⟨hsp3, hl3⟩ := take_sp h2 hsp2 hl2
    have R2 := Lib.hid (read_yes (z := #[.int .i64 0, .int .i64 0, .int .i64 0, .int .i64 0, .string ⟨#[]⟩, .int .u64 0, .int .u64 0, .bool false, .bool false, .int .u64 0, .int .u64 0, .int .i64 0, .int .i64 0]) (cs := #[.int .i64 0, .int .i64 0, .int .i64 0, .int .i64 0, .string ⟨#[]⟩, .int .u64 0, .int .u64 0, .bool false, .bool false, .int .u64 0, .int .u64 0, .int .i64 0, .int .i64 0]) reads_draw hS.out h2g.out h4g hsp2 hl2 h2)
    cases h3 : takeP bytesP r3 with
    | none =>
     have R3 := Lib.hid (read_no (z := #[.int .i64 0, .int .i64 0, .int .i64 0, .int .i64 0, .string ⟨#[]⟩, .int .u64 0, .int .u64 0, .bool false, .bool false, .int .u64 0, .int .u64 0, .int .i64 0, .int .i64 0]) (cs := #[.int .i64 0, .int .i64 0, .int .i64 0, .int .i64 0, .string ⟨#[]⟩, .int .u64 0, .int .u64 0, .bool false, .bool false, .int .u64 0, .int .u64 0, .int .i64 0, .int .i64 0]) reads_bytes hS.out h2g.out h4g hsp3 hl3 h3)
     go_wp2_with (first
      | (go_at_call 55; (with_reducible refine (R0.out _ hI).mono ?_); rintro e w4 ⟨rfl, hI1⟩)
      | (go_at_call 56; (with_reducible refine (R1.out _ hI1).mono ?_); rintro e w5 ⟨rfl, hI2⟩)
      | (go_at_call 56; (with_reducible refine (R2.out _ hI2).mono ?_); rintro e w6 ⟨rfl, hI3⟩)
      | (go_at_call 57; (with_reducible refine (R3.out _ hI3).mono ?_); rintro e wn ⟨rfl, hkn⟩))
     exact ⟨rfl, by simp only [seqT, h0, h1, h2, h3]; rfl, below_cur hb1.out hkn (by omega)⟩
    | some v3 =>
     obtain ⟨y3, r4⟩ := v3
     obtain ⟨hsp4, hl4⟩ := take_sp h3 hsp3 hl3
     have R3 := Lib.hid (read_yes (z := #[.int .i64 0, .int .i64 0, .int .i64 0, .int .i64 0, .string ⟨#[]⟩, .int .u64 0, .int .u64 0, .bool false, .bool false, .int .u64 0, .int .u64 0, .int .i64 0, .int .i64 0]) (cs := #[.int .i64 0, .int .i64 0, .int .i64 0, .int .i64 0, .string ⟨#[]⟩, .int .u64 0, .int .u64 0, .bool false, .bool false, .int .u64 0, .int .u64 0, .int .i64 0, .int .i64 0]) reads_bytes hS.out h2g.out h4g hsp3 hl3 h3)
     go_upto_region 26 with (first
      | (go_at_call 55; (with_reducible refine (R0.out _ hI).mono ?_); rintro e w4 ⟨rfl, hI1⟩)
      | (go_at_call 56; (with_reducible refine (R1.out _ hI1).mono ?_); rintro e w5 ⟨rfl, hI2⟩)
      | (go_at_call 56; (with_reducible refine (R2.out _ hI2).mono ?_); rintro e w6 ⟨rfl, hI3⟩)
      | (go_at_call 57; (with_reducible refine (R3.out _ hI3).mono ?_); rintro e w7 ⟨rfl, hI4⟩; have d1 := Blk.frozen hI4.b 1; have q1 : w7.cell? ⟨b4, 1, none⟩ = some (.int .i64 0) := Blk.cell hI4.b 1; have d5 := Blk.frozen hI4.b 5; have q5 : w7.cell? ⟨b4, 5, none⟩ = some (.int .u64 0) := Blk.cell hI4.b 5; have d6 := Blk.frozen hI4.b 6; have q6 : w7.cell? ⟨b4, 6, none⟩ = some (.int .u64 0) := Blk.cell hI4.b 6; have d4 := Blk.frozen hI4.b 4; have q4 : w7.cell? ⟨b4, 4, none⟩ = some (.string ⟨#[]⟩) := Blk.cell hI4.b 4))
     have hJ : AInv w1 ((((w7.setCell ⟨b4, 1, none⟩ (.int .i64 y0)).setCell ⟨b4, 5, none⟩ (.int .u64 ((y1 : Nat) : Int))).setCell ⟨b4, 6, none⟩ (.int .u64 ((y2 : Nat) : Int))).setCell ⟨b4, 4, none⟩ (.string ⟨(y3).toArray⟩)) (w.heap.size + 1) w.heap.size b4 r4 #[.int .i64 0, .int .i64 y0, .int .i64 0, .int .i64 0, .string ⟨(y3).toArray⟩, .int .u64 ((y1 : Nat) : Int), .int .u64 ((y2 : Nat) : Int), .bool false, .bool false, .int .u64 0, .int .u64 0, .int .i64 0, .int .i64 0] #[.int .i64 0, .int .i64 0, .int .i64 0, .int .i64 0, .string ⟨#[]⟩, .int .u64 0, .int .u64 0, .bool false, .bool false, .int .u64 0, .int .u64 0, .int .i64 0, .int .i64 0] := ((((hI4.set h4g h42 hb4.out 1 (.int .i64 y0)).set h4g h42 hb4.out 5 (.int .u64 ((y1 : Nat) : Int))).set h4g h42 hb4.out 6 (.int .u64 ((y2 : Nat) : Int))).set h4g h42 hb4.out 4 (.string ⟨(y3).toArray⟩))
     generalize ((((w7.setCell ⟨b4, 1, none⟩ (.int .i64 y0)).setCell ⟨b4, 5, none⟩ (.int .u64 ((y1 : Nat) : Int))).setCell ⟨b4, 6, none⟩ (.int .u64 ((y2 : Nat) : Int))).setCell ⟨b4, 4, none⟩ (.string ⟨(y3).toArray⟩)) = wz at *
     clear c0 d1 q1 d5 q5 d6 q6 d4 q4 hI hI1 hI2 hI3 hI4
     cases r4 with
     | cons a t =>
      have k1 : wz.cell? ⟨w.heap.size + 1, 1, none⟩ = some (.bool true) := Blk.cell hJ.c 1
      have MF := Lib.hid must_false
      go_wp2_with (go_at_call 60; (refine (MF.out _).mono ?_); rintro e wn ⟨rfl, rfl⟩)
      exact ⟨rfl, by simp only [seqT, h0, h1, h2, h3]; rfl, below_cur hb1.out hJ.k (by omega)⟩
     | nil =>
      have k1 : wz.cell? ⟨w.heap.size + 1, 1, none⟩ = some (.bool false) := Blk.cell hJ.c 1
      have MT := Lib.hid must_true
      go_wp2_with (first
       | (go_at_call 60; (refine (MT.out _).mono ?_); rintro e wn ⟨rfl, rfl⟩)
       | (with_reducible refine wpList_load_blk rfl 34 (.tmp 4) rfl b4 0 rfl hJ.b [.int .i64 0, .int .i64 y0, .int .i64 0, .int .i64 0, .string ⟨(y3).toArray⟩, .int .u64 ((y1 : Nat) : Int), .int .u64 ((y2 : Nat) : Int), .bool false, .bool false, .int .u64 0, .int .u64 0, .int .i64 0, .int .i64 0] rfl _ Tryz.underlying34 rfl (by kernel_rfl) ?_)
       | (with_reducible refine wpList_store_blk rfl rfl 34 (.tmp 2) (.tmp 95) rfl w.heap.size 0 rfl hJ.r [.int .i64 0, .int .i64 y0, .int .i64 0, .int .i64 0, .string ⟨(y3).toArray⟩, .int .u64 ((y1 : Nat) : Int), .int .u64 ((y2 : Nat) : Int), .bool false, .bool false, .int .u64 0, .int .u64 0, .int .i64 0, .int .i64 0] rfl (Nat.le_of_ble_eq_true (by kernel_rfl)) (by kernel_rfl) rfl ?_; intro wy hBy hcy hzy))
      refine bodyPost_ret (v := .agg #[.int .i64 0, .int .i64 y0, .int .i64 0, .int .i64 0, .string ⟨(y3).toArray⟩, .int .u64 ((y1 : Nat) : Int), .int .u64 ((y2 : Nat) : Int), .bool false, .bool false, .int .u64 0, .int .u64 0, .int .i64 0, .int .i64 0]) (results_cell rfl rfl (loadVar_blk 34 hBy [.int .i64 0, .int .i64 y0, .int .i64 0, .int .i64 0, .string ⟨(y3).toArray⟩, .int .u64 ((y1 : Nat) : Int), .int .u64 ((y2 : Nat) : Int), .bool false, .bool false, .int .u64 0, .int .u64 0, .int .i64 0, .int .i64 0] rfl _ Tryz.underlying34 rfl (by kernel_rfl))) rfl ?_
      exact ⟨by simp only [seqT, h0, h1, h2, h3]; rfl, (below_cur hb1.out hJ.k (by omega)).trans (hcy.below (fun b hb h => by omega) (below_cur hb1.out hJ.k (by omega)).size)⟩
set_option maxRecDepth 100000 in
set_option maxHeartbeats 16000000 in
theorem scr_act1 (l : List UInt8) (wd : List UInt8) (r : List (List UInt8)) (w : World) (hw : Std w) (hL : l.length ≤ 10000) (hp : parts 32 l = wd :: r) (hkd : kindP wd = some 1) :
  Calls Tryz.prog 30 #[.string ⟨l.toArray⟩] w fun e w' => e = actE (argsP 1 r) ∧ Below w.heap.size w w' := by
 rw [args_seq1]
 have hj : restL (wd :: r) = l := by unfold restL; rw [← hp]; exact join_parts 32 l
 have hsp : ∀ x ∈ wd :: r, (32 : UInt8) ∉ x := by rw [← hp]; exact not_mem_parts 32 l
 have hl0 : (restL (wd :: r)).length ≤ 10000 := by rw [hj]; exact hL
 obtain ⟨w1, hw1⟩ : ∃ w1, w1 = (w.alloc (.cells #[.int .i64 0, .int .i64 0, .int .i64 0, .int .i64 0, .string ⟨#[]⟩, .int .u64 0, .int .u64 0, .bool false, .bool false, .int .u64 0, .int .u64 0, .int .i64 0, .int .i64 0] 34)).alloc (.cells #[.string ⟨l.toArray⟩, .bool true] 95) := ⟨_, rfl⟩
 have hb1 : Below w.heap.size w w1 := hw1 ▸ below_alloc (below_alloc (Below.refl _ _) _) _
 have hs1 : w1.heap.size = w.heap.size + 2 := by rw [hw1]; simp
 have hc1 : Cur w1 (w.heap.size + 1) (wd :: r) := by
  unfold Cur
  rw [hj, hw1]
  have := Blk.new (w.alloc (.cells #[.int .i64 0, .int .i64 0, .int .i64 0, .int .i64 0, .string ⟨#[]⟩, .int .u64 0, .int .u64 0, .bool false, .bool false, .int .u64 0, .int .u64 0, .int .i64 0, .int .i64 0] 34)) 95 #[.string ⟨l.toArray⟩, .bool true]
  rw [show (w.alloc (.cells #[.int .i64 0, .int .i64 0, .int .i64 0, .int .i64 0, .string ⟨#[]⟩, .int .u64 0, .int .u64 0, .bool false, .bool false, .int .u64 0, .int .u64 0, .int .i64 0, .int .i64 0] 34)).heap.size = w.heap.size + 1 by simp] at this
  exact this
 have hr1 : Blk w1 w.heap.size 34 #[.int .i64 0, .int .i64 0, .int .i64 0, .int .i64 0, .string ⟨#[]⟩, .int .u64 0, .int .u64 0, .bool false, .bool false, .int .u64 0, .int .u64 0, .int .i64 0, .int .i64 0] := by rw [hw1]; exact (Blk.new w 34 #[.int .i64 0, .int .i64 0, .int .i64 0, .int .i64 0, .string ⟨#[]⟩, .int .u64 0, .int .u64 0, .bool false, .bool false, .int .u64 0, .int .u64 0, .int .i64 0, .int .i64 0]).alloc _
 have hS : ∀ W, Chg (· = w.heap.size + 1) w1 W → Std W := fun W h => hw.below (below_cur hb1 h (by omega))
 have KK := reads_kind (w.heap.size + 1) (wd :: r) w1 (hw.below hb1) hc1 hsp hl0 hS
 have ht : takeP kindP (wd :: r) = some (1, r) := by show (kindP wd).map (fun v => (v, r)) = _; rw [hkd]; rfl
 have hsp' := (take_sp ht hsp hl0).1
 have hl' := (take_sp ht hsp hl0).2
 simp only [ht] at KK
 replace KK := Lib.hid (show Calls Tryz.prog 54 #[.pointer (some ⟨w.heap.size + 1, 0, none⟩)] w1 fun e w' => Chg (· = w.heap.size + 1) w1 w' ∧ e = .returned (.int .i64 1) ∧ Cur w' (w.heap.size + 1) r from KK)
 replace hS := Lib.hid hS
 clear ht hsp hl0 hkd hc1
 replace hp := Lib.hid hp
 replace hj := Lib.hid hj
 replace hL := Lib.hid hL
 go_enter Tryz.func30, Tryz.ntmps30
 go_upto_region 2 with fail
 rw [← hw1]
 clear hw1
 have h2g : ¬ w.heap.size = w.heap.size + 1 := by omega
 replace hb1 := Lib.hid hb1
 replace h2g := Lib.hid h2g
 go_upto_region 3 with (go_at_call 54; (refine KK.out.mono ?_); rintro e w2 ⟨hk2, rfl, hc2⟩)
 have hb4 : w1.heap.size ≤ w2.heap.size := hk2.size
 have hI : AInv w1 (w2.alloc (.cells #[.int .i64 1, .int .i64 0, .int .i64 0, .int .i64 0, .string ⟨#[]⟩, .int .u64 0, .int .u64 0, .bool false, .bool false, .int .u64 0, .int .u64 0, .int .i64 0, .int .i64 0] 34)) (w.heap.size + 1) w.heap.size w2.heap.size r #[.int .i64 1, .int .i64 0, .int .i64 0, .int .i64 0, .string ⟨#[]⟩, .int .u64 0, .int .u64 0, .bool false, .bool false, .int .u64 0, .int .u64 0, .int .i64 0, .int .i64 0] #[.int .i64 0, .int .i64 0, .int .i64 0, .int .i64 0, .string ⟨#[]⟩, .int .u64 0, .int .u64 0, .bool false, .bool false, .int .u64 0, .int .u64 0, .int .i64 0, .int .i64 0] := ⟨hk2.alloc _, Blk.alloc hc2 _, Blk.new _ _ _, (hr1.chg hk2 h2g.out).alloc _⟩
 clear hk2 hc2 hr1
 generalize w2.alloc (.cells #[.int .i64 1, .int .i64 0, .int .i64 0, .int .i64 0, .string ⟨#[]⟩, .int .u64 0, .int .u64 0, .bool false, .bool false, .int .u64 0, .int .u64 0, .int .i64 0, .int .i64 0] 34) = w3 at *
 generalize w2.heap.size = b4 at *
 have h4g : ¬ b4 = w.heap.size + 1 := by omega
 have h42 : ¬ b4 = w.heap.size := by omega
 have c0 : w3.cell? ⟨b4, 0, none⟩ = some (.int .i64 1) := hI.b.cell 0
 replace hb4 := Lib.hid hb4
 clear hs1
 go_upto_region 7 with fail
 cases h0 : takeP numP r with
 | none =>
  have R0 := Lib.hid (read_no (z := #[.int .i64 0, .int .i64 0, .int .i64 0, .int .i64 0, .string ⟨#[]⟩, .int .u64 0, .int .u64 0, .bool false, .bool false, .int .u64 0, .int .u64 0, .int .i64 0, .int .i64 0]) (cs := #[.int .i64 1, .int .i64 0, .int .i64 0, .int .i64 0, .string ⟨#[]⟩, .int .u64 0, .int .u64 0, .bool false, .bool false, .int .u64 0, .int .u64 0, .int .i64 0, .int .i64 0]) reads_number hS.out h2g.out h4g hsp' hl' h0)
  go_wp2_with (first
   | (go_at_call 55; (with_reducible refine (R0.out _ hI).mono ?_); rintro e wn ⟨rfl, hkn⟩))
  exact ⟨rfl, by simp only [seqT, h0]; rfl, below_cur hb1.out hkn (by omega)⟩
 | some v0 =>
  obtain ⟨y0, r1⟩ := v0
  obtain ⟨hsp1, hl1⟩ := take_sp h0 hsp' hl'
  have R0 := Lib.hid (read_yes (z := #[.int .i64 0, .int .i64 0, .int .i64 0, .int .i64 0, .string ⟨#[]⟩, .int .u64 0, .int .u64 0, .bool false, .bool false, .int .u64 0, .int .u64 0, .int .i64 0, .int .i64 0]) (cs := #[.int .i64 1, .int .i64 0, .int .i64 0, .int .i64 0, .string ⟨#[]⟩, .int .u64 0, .int .u64 0, .bool false, .bool false, .int .u64 0, .int .u64 0, .int .i64 0, .int .i64 0]) reads_number hS.out h2g.out h4g hsp' hl' h0)
  cases h1 : takeP bytesP r1 with
  | none =>
   have R1 := Lib.hid (read_no (z := #[.int .i64 0, .int .i64 0, .int .i64 0, .int .i64 0, .string ⟨#[]⟩, .int .u64 0, .int .u64 0, .bool false, .bool false, .int .u64 0, .int .u64 0, .int .i64 0, .int .i64 0]) (cs := #[.int .i64 1, .int .i64 0, .int .i64 0, .int .i64 0, .string ⟨#[]⟩, .int .u64 0, .int .u64 0, .bool false, .bool false, .int .u64 0, .int .u64 0, .int .i64 0, .int .i64 0]) reads_bytes hS.out h2g.out h4g hsp1 hl1 h1)
   go_wp2_with (first
    | (go_at_call 55; (with_reducible refine (R0.out _ hI).mono ?_); rintro e w4 ⟨rfl, hI1⟩)
    | (go_at_call 57; (with_reducible refine (R1.out _ hI1).mono ?_); rintro e wn ⟨rfl, hkn⟩))
   exact ⟨rfl, by simp only [seqT, h0, h1]; rfl, below_cur hb1.out hkn (by omega)⟩
  | some v1 =>
   obtain ⟨y1, r2⟩ := v1
   obtain ⟨hsp2, hl2⟩ := take_sp h1 hsp1 hl1
   have R1 := Lib.hid (read_yes (z := #[.int .i64 0, .int .i64 0, .int .i64 0, .int .i64 0, .string ⟨#[]⟩, .int .u64 0, .int .u64 0, .bool false, .bool false, .int .u64 0, .int .u64 0, .int .i64 0, .int .i64 0]) (cs := #[.int .i64 1, .int .i64 0, .int .i64 0, .int .i64 0, .string ⟨#[]⟩, .int .u64 0, .int .u64 0, .bool false, .bool false, .int .u64 0, .int .u64 0, .int .i64 0, .int .i64 0]) reads_bytes hS.out h2g.out h4g hsp1 hl1 h1)
   go_upto_region 26 with (first
    | (go_at_call 55; (with_reducible refine (R0.out _ hI).mono ?_); rintro e w4 ⟨rfl, hI1⟩)
    | (go_at_call 57; (with_reducible refine (R1.out _ hI1).mono ?_); rintro e w5 ⟨rfl, hI2⟩; have d2 := Blk.frozen hI2.b 2; have q2 : w5.cell? ⟨b4, 2, none⟩ = some (.int .i64 0) := Blk.cell hI2.b 2; have d4 := Blk.frozen hI2.b 4; have q4 : w5.cell? ⟨b4, 4, none⟩ = some (.string ⟨#[]⟩) := Blk.cell hI2.b 4))
   have hJ : AInv w1 ((w5.setCell ⟨b4, 2, none⟩ (.int .i64 y0)).setCell ⟨b4, 4, none⟩ (.string ⟨(y1).toArray⟩)) (w.heap.size + 1) w.heap.size b4 r2 #[.int .i64 1, .int .i64 0, .int .i64 y0, .int .i64 0, .string ⟨(y1).toArray⟩, .int .u64 0, .int .u64 0, .bool false, .bool false, .int .u64 0, .int .u64 0, .int .i64 0, .int .i64 0] #[.int .i64 0, .int .i64 0, .int .i64 0, .int .i64 0, .string ⟨#[]⟩, .int .u64 0, .int .u64 0, .bool false, .bool false, .int .u64 0, .int .u64 0, .int .i64 0, .int .i64 0] := ((hI2.set h4g h42 hb4.out 2 (.int .i64 y0)).set h4g h42 hb4.out 4 (.string ⟨(y1).toArray⟩))
   generalize ((w5.setCell ⟨b4, 2, none⟩ (.int .i64 y0)).setCell ⟨b4, 4, none⟩ (.string ⟨(y1).toArray⟩)) = wz at *
   clear c0 d2 q2 d4 q4 hI hI1 hI2
   cases r2 with
   | cons a t =>
    have k1 : wz.cell? ⟨w.heap.size + 1, 1, none⟩ = some (.bool true) := Blk.cell hJ.c 1
    have MF := Lib.hid must_false
    go_wp2_with (go_at_call 60; (refine (MF.out _).mono ?_); rintro e wn ⟨rfl, rfl⟩)
    exact ⟨rfl, by simp only [seqT, h0, h1]; rfl, below_cur hb1.out hJ.k (by omega)⟩
   | nil =>
    have k1 : wz.cell? ⟨w.heap.size + 1, 1, none⟩ = some (.bool false) := Blk.cell hJ.c 1
    have MT := Lib.hid must_true
    go_wp2_with (first
     | (go_at_call 60; (refine (MT.out _).mono ?_); rintro e wn ⟨rfl, rfl⟩)
     | (with_reducible refine wpList_load_blk rfl 34 (.tmp 4) rfl b4 0 rfl hJ.b [.int .i64 1, .int .i64 0, .int .i64 y0, .int .i64 0, .string ⟨(y1).toArray⟩, .int .u64 0, .int .u64 0, .bool false, .bool false, .int .u64 0, .int .u64 0, .int .i64 0, .int .i64 0] rfl _ Tryz.underlying34 rfl (by kernel_rfl) ?_)
     | (with_reducible refine wpList_store_blk rfl rfl 34 (.tmp 2) (.tmp 95) rfl w.heap.size 0 rfl hJ.r [.int .i64 1, .int .i64 0, .int .i64 y0, .int .i64 0, .string ⟨(y1).toArray⟩, .int .u64 0, .int .u64 0, .bool false, .bool false, .int .u64 0, .int .u64 0, .int .i64 0, .int .i64 0] rfl (Nat.le_of_ble_eq_true (by kernel_rfl)) (by kernel_rfl) rfl ?_; intro wy hBy hcy hzy))
    refine bodyPost_ret (v := .agg #[.int .i64 1, .int .i64 0, .int .i64 y0, .int .i64 0, .string ⟨(y1).toArray⟩, .int .u64 0, .int .u64 0, .bool false, .bool false, .int .u64 0, .int .u64 0, .int .i64 0, .int .i64 0]) (results_cell rfl rfl (loadVar_blk 34 hBy [.int .i64 1, .int .i64 0, .int .i64 y0, .int .i64 0, .string ⟨(y1).toArray⟩, .int .u64 0, .int .u64 0, .bool false, .bool false, .int .u64 0, .int .u64 0, .int .i64 0, .int .i64 0] rfl _ Tryz.underlying34 rfl (by kernel_rfl))) rfl ?_
    exact ⟨by simp only [seqT, h0, h1]; rfl, (below_cur hb1.out hJ.k (by omega)).trans (hcy.below (fun b hb h => by omega) (below_cur hb1.out hJ.k (by omega)).size)⟩
set_option maxRecDepth 100000 in
set_option maxHeartbeats 16000000 in
theorem scr_act2 (l : List UInt8) (wd : List UInt8) (r : List (List UInt8)) (w : World) (hw : Std w) (hL : l.length ≤ 10000) (hp : parts 32 l = wd :: r) (hkd : kindP wd = some 2) :
  Calls Tryz.prog 30 #[.string ⟨l.toArray⟩] w fun e w' => e = actE (argsP 2 r) ∧ Below w.heap.size w w' := by
 rw [args_seq2]
 have hj : restL (wd :: r) = l := by unfold restL; rw [← hp]; exact join_parts 32 l
 have hsp : ∀ x ∈ wd :: r, (32 : UInt8) ∉ x := by rw [← hp]; exact not_mem_parts 32 l
 have hl0 : (restL (wd :: r)).length ≤ 10000 := by rw [hj]; exact hL
 obtain ⟨w1, hw1⟩ : ∃ w1, w1 = (w.alloc (.cells #[.int .i64 0, .int .i64 0, .int .i64 0, .int .i64 0, .string ⟨#[]⟩, .int .u64 0, .int .u64 0, .bool false, .bool false, .int .u64 0, .int .u64 0, .int .i64 0, .int .i64 0] 34)).alloc (.cells #[.string ⟨l.toArray⟩, .bool true] 95) := ⟨_, rfl⟩
 have hb1 : Below w.heap.size w w1 := hw1 ▸ below_alloc (below_alloc (Below.refl _ _) _) _
 have hs1 : w1.heap.size = w.heap.size + 2 := by rw [hw1]; simp
 have hc1 : Cur w1 (w.heap.size + 1) (wd :: r) := by
  unfold Cur
  rw [hj, hw1]
  have := Blk.new (w.alloc (.cells #[.int .i64 0, .int .i64 0, .int .i64 0, .int .i64 0, .string ⟨#[]⟩, .int .u64 0, .int .u64 0, .bool false, .bool false, .int .u64 0, .int .u64 0, .int .i64 0, .int .i64 0] 34)) 95 #[.string ⟨l.toArray⟩, .bool true]
  rw [show (w.alloc (.cells #[.int .i64 0, .int .i64 0, .int .i64 0, .int .i64 0, .string ⟨#[]⟩, .int .u64 0, .int .u64 0, .bool false, .bool false, .int .u64 0, .int .u64 0, .int .i64 0, .int .i64 0] 34)).heap.size = w.heap.size + 1 by simp] at this
  exact this
 have hr1 : Blk w1 w.heap.size 34 #[.int .i64 0, .int .i64 0, .int .i64 0, .int .i64 0, .string ⟨#[]⟩, .int .u64 0, .int .u64 0, .bool false, .bool false, .int .u64 0, .int .u64 0, .int .i64 0, .int .i64 0] := by rw [hw1]; exact (Blk.new w 34 #[.int .i64 0, .int .i64 0, .int .i64 0, .int .i64 0, .string ⟨#[]⟩, .int .u64 0, .int .u64 0, .bool false, .bool false, .int .u64 0, .int .u64 0, .int .i64 0, .int .i64 0]).alloc _
 have hS : ∀ W, Chg (· = w.heap.size + 1) w1 W → Std W := fun W h => hw.below (below_cur hb1 h (by omega))
 have KK := reads_kind (w.heap.size + 1) (wd :: r) w1 (hw.below hb1) hc1 hsp hl0 hS
 have ht : takeP kindP (wd :: r) = some (2, r) := by show (kindP wd).map (fun v => (v, r)) = _; rw [hkd]; rfl
 have hsp' := (take_sp ht hsp hl0).1
 have hl' := (take_sp ht hsp hl0).2
 simp only [ht] at KK
 replace KK := Lib.hid (show Calls Tryz.prog 54 #[.pointer (some ⟨w.heap.size + 1, 0, none⟩)] w1 fun e w' => Chg (· = w.heap.size + 1) w1 w' ∧ e = .returned (.int .i64 2) ∧ Cur w' (w.heap.size + 1) r from KK)
 replace hS := Lib.hid hS
 clear ht hsp hl0 hkd hc1
 replace hp := Lib.hid hp
 replace hj := Lib.hid hj
 replace hL := Lib.hid hL
 go_enter Tryz.func30, Tryz.ntmps30
 go_upto_region 2 with fail
 rw [← hw1]
 clear hw1
 have h2g : ¬ w.heap.size = w.heap.size + 1 := by omega
 replace hb1 := Lib.hid hb1
 replace h2g := Lib.hid h2g
 go_upto_region 3 with (go_at_call 54; (refine KK.out.mono ?_); rintro e w2 ⟨hk2, rfl, hc2⟩)
 have hb4 : w1.heap.size ≤ w2.heap.size := hk2.size
 have hI : AInv w1 (w2.alloc (.cells #[.int .i64 2, .int .i64 0, .int .i64 0, .int .i64 0, .string ⟨#[]⟩, .int .u64 0, .int .u64 0, .bool false, .bool false, .int .u64 0, .int .u64 0, .int .i64 0, .int .i64 0] 34)) (w.heap.size + 1) w.heap.size w2.heap.size r #[.int .i64 2, .int .i64 0, .int .i64 0, .int .i64 0, .string ⟨#[]⟩, .int .u64 0, .int .u64 0, .bool false, .bool false, .int .u64 0, .int .u64 0, .int .i64 0, .int .i64 0] #[.int .i64 0, .int .i64 0, .int .i64 0, .int .i64 0, .string ⟨#[]⟩, .int .u64 0, .int .u64 0, .bool false, .bool false, .int .u64 0, .int .u64 0, .int .i64 0, .int .i64 0] := ⟨hk2.alloc _, Blk.alloc hc2 _, Blk.new _ _ _, (hr1.chg hk2 h2g.out).alloc _⟩
 clear hk2 hc2 hr1
 generalize w2.alloc (.cells #[.int .i64 2, .int .i64 0, .int .i64 0, .int .i64 0, .string ⟨#[]⟩, .int .u64 0, .int .u64 0, .bool false, .bool false, .int .u64 0, .int .u64 0, .int .i64 0, .int .i64 0] 34) = w3 at *
 generalize w2.heap.size = b4 at *
 have h4g : ¬ b4 = w.heap.size + 1 := by omega
 have h42 : ¬ b4 = w.heap.size := by omega
 have c0 : w3.cell? ⟨b4, 0, none⟩ = some (.int .i64 2) := hI.b.cell 0
 replace hb4 := Lib.hid hb4
 clear hs1
 go_upto_region 9 with fail
 cases h0 : takeP numP r with
 | none =>
  have R0 := Lib.hid (read_no (z := #[.int .i64 0, .int .i64 0, .int .i64 0, .int .i64 0, .string ⟨#[]⟩, .int .u64 0, .int .u64 0, .bool false, .bool false, .int .u64 0, .int .u64 0, .int .i64 0, .int .i64 0]) (cs := #[.int .i64 2, .int .i64 0, .int .i64 0, .int .i64 0, .string ⟨#[]⟩, .int .u64 0, .int .u64 0, .bool false, .bool false, .int .u64 0, .int .u64 0, .int .i64 0, .int .i64 0]) reads_number hS.out h2g.out h4g hsp' hl' h0)
  go_wp2_with (first
   | (go_at_call 55; (with_reducible refine (R0.out _ hI).mono ?_); rintro e wn ⟨rfl, hkn⟩))
  exact ⟨rfl, by simp only [seqT, h0]; rfl, below_cur hb1.out hkn (by omega)⟩
 | some v0 =>
  obtain ⟨y0, r1⟩ := v0
  obtain ⟨hsp1, hl1⟩ := take_sp h0 hsp' hl'
  have R0 := Lib.hid (read_yes (z := #[.int .i64 0, .int .i64 0, .int .i64 0, .int .i64 0, .string ⟨#[]⟩, .int .u64 0, .int .u64 0, .bool false, .bool false, .int .u64 0, .int .u64 0, .int .i64 0, .int .i64 0]) (cs := #[.int .i64 2, .int .i64 0, .int .i64 0, .int .i64 0, .string ⟨#[]⟩, .int .u64 0, .int .u64 0, .bool false, .bool false, .int .u64 0, .int .u64 0, .int .i64 0, .int .i64 0]) reads_number hS.out h2g.out h4g hsp' hl' h0)
  cases h1 : takeP readA r1 with
  | none =>
   have R1 := Lib.hid (read_no (z := #[.int .i64 0, .int .i64 0, .int .i64 0, .int .i64 0, .string ⟨#[]⟩, .int .u64 0, .int .u64 0, .bool false, .bool false, .int .u64 0, .int .u64 0, .int .i64 0, .int .i64 0]) (cs := #[.int .i64 2, .int .i64 0, .int .i64 0, .int .i64 0, .string ⟨#[]⟩, .int .u64 0, .int .u64 0, .bool false, .bool false, .int .u64 0, .int .u64 0, .int .i64 0, .int .i64 0]) reads_address hS.out h2g.out h4g hsp1 hl1 h1)
   go_wp2_with (first
    | (go_at_call 55; (with_reducible refine (R0.out _ hI).mono ?_); rintro e w4 ⟨rfl, hI1⟩)
    | (go_at_call 58; (with_reducible refine (R1.out _ hI1).mono ?_); rintro e wn ⟨rfl, hkn⟩))
   exact ⟨rfl, by simp only [seqT, h0, h1]; rfl, below_cur hb1.out hkn (by omega)⟩
  | some v1 =>
   obtain ⟨y1, r2⟩ := v1
   obtain ⟨hsp2, hl2⟩ := take_sp h1 hsp1 hl1
   have R1 := Lib.hid (read_yes (z := #[.int .i64 0, .int .i64 0, .int .i64 0, .int .i64 0, .string ⟨#[]⟩, .int .u64 0, .int .u64 0, .bool false, .bool false, .int .u64 0, .int .u64 0, .int .i64 0, .int .i64 0]) (cs := #[.int .i64 2, .int .i64 0, .int .i64 0, .int .i64 0, .string ⟨#[]⟩, .int .u64 0, .int .u64 0, .bool false, .bool false, .int .u64 0, .int .u64 0, .int .i64 0, .int .i64 0]) reads_address hS.out h2g.out h4g hsp1 hl1 h1)
   go_upto_region 26 with (first
    | (go_at_call 55; (with_reducible refine (R0.out _ hI).mono ?_); rintro e w4 ⟨rfl, hI1⟩)
    | (go_at_call 58; (with_reducible refine (R1.out _ hI1).mono ?_); rintro e w5 ⟨rfl, hI2⟩; have d3 := Blk.frozen hI2.b 3; have q3 : w5.cell? ⟨b4, 3, none⟩ = some (.int .i64 0) := Blk.cell hI2.b 3; have d8 := Blk.frozen hI2.b 8; have q8 : w5.cell? ⟨b4, 8, none⟩ = some (.bool false) := Blk.cell hI2.b 8; have d9 := Blk.frozen hI2.b 9; have q9 : w5.cell? ⟨b4, 9, none⟩ = some (.int .u64 0) := Blk.cell hI2.b 9; have d10 := Blk.frozen hI2.b 10; have q10 : w5.cell? ⟨b4, 10, none⟩ = some (.int .u64 0) := Blk.cell hI2.b 10))
   have hJ : AInv w1 ((((w5.setCell ⟨b4, 3, none⟩ (.int .i64 y0)).setCell ⟨b4, 8, none⟩ (.bool y1.1)).setCell ⟨b4, 9, none⟩ (.int .u64 ((y1.2.1 : Nat) : Int))).setCell ⟨b4, 10, none⟩ (.int .u64 ((y1.2.2 : Nat) : Int))) (w.heap.size + 1) w.heap.size b4 r2 #[.int .i64 2, .int .i64 0, .int .i64 0, .int .i64 y0, .string ⟨#[]⟩, .int .u64 0, .int .u64 0, .bool false, .bool y1.1, .int .u64 ((y1.2.1 : Nat) : Int), .int .u64 ((y1.2.2 : Nat) : Int), .int .i64 0, .int .i64 0] #[.int .i64 0, .int .i64 0, .int .i64 0, .int .i64 0, .string ⟨#[]⟩, .int .u64 0, .int .u64 0, .bool false, .bool false, .int .u64 0, .int .u64 0, .int .i64 0, .int .i64 0] := ((((hI2.set h4g h42 hb4.out 3 (.int .i64 y0)).set h4g h42 hb4.out 8 (.bool y1.1)).set h4g h42 hb4.out 9 (.int .u64 ((y1.2.1 : Nat) : Int))).set h4g h42 hb4.out 10 (.int .u64 ((y1.2.2 : Nat) : Int)))
   generalize ((((w5.setCell ⟨b4, 3, none⟩ (.int .i64 y0)).setCell ⟨b4, 8, none⟩ (.bool y1.1)).setCell ⟨b4, 9, none⟩ (.int .u64 ((y1.2.1 : Nat) : Int))).setCell ⟨b4, 10, none⟩ (.int .u64 ((y1.2.2 : Nat) : Int))) = wz at *
   clear c0 d3 q3 d8 q8 d9 q9 d10 q10 hI hI1 hI2
   cases r2 with
   | cons a t =>
    have k1 : wz.cell? ⟨w.heap.size + 1, 1, none⟩ = some (.bool true) := Blk.cell hJ.c 1
    have MF := Lib.hid must_false
    go_wp2_with (go_at_call 60; (refine (MF.out _).mono ?_); rintro e wn ⟨rfl, rfl⟩)
    exact ⟨rfl, by simp only [seqT, h0, h1]; rfl, below_cur hb1.out hJ.k (by omega)⟩
   | nil =>
    have k1 : wz.cell? ⟨w.heap.size + 1, 1, none⟩ = some (.bool false) := Blk.cell hJ.c 1
    have MT := Lib.hid must_true
    go_wp2_with (first
     | (go_at_call 60; (refine (MT.out _).mono ?_); rintro e wn ⟨rfl, rfl⟩)
     | (with_reducible refine wpList_load_blk rfl 34 (.tmp 4) rfl b4 0 rfl hJ.b [.int .i64 2, .int .i64 0, .int .i64 0, .int .i64 y0, .string ⟨#[]⟩, .int .u64 0, .int .u64 0, .bool false, .bool y1.1, .int .u64 ((y1.2.1 : Nat) : Int), .int .u64 ((y1.2.2 : Nat) : Int), .int .i64 0, .int .i64 0] rfl _ Tryz.underlying34 rfl (by kernel_rfl) ?_)
     | (with_reducible refine wpList_store_blk rfl rfl 34 (.tmp 2) (.tmp 95) rfl w.heap.size 0 rfl hJ.r [.int .i64 2, .int .i64 0, .int .i64 0, .int .i64 y0, .string ⟨#[]⟩, .int .u64 0, .int .u64 0, .bool false, .bool y1.1, .int .u64 ((y1.2.1 : Nat) : Int), .int .u64 ((y1.2.2 : Nat) : Int), .int .i64 0, .int .i64 0] rfl (Nat.le_of_ble_eq_true (by kernel_rfl)) (by kernel_rfl) rfl ?_; intro wy hBy hcy hzy))
    refine bodyPost_ret (v := .agg #[.int .i64 2, .int .i64 0, .int .i64 0, .int .i64 y0, .string ⟨#[]⟩, .int .u64 0, .int .u64 0, .bool false, .bool y1.1, .int .u64 ((y1.2.1 : Nat) : Int), .int .u64 ((y1.2.2 : Nat) : Int), .int .i64 0, .int .i64 0]) (results_cell rfl rfl (loadVar_blk 34 hBy [.int .i64 2, .int .i64 0, .int .i64 0, .int .i64 y0, .string ⟨#[]⟩, .int .u64 0, .int .u64 0, .bool false, .bool y1.1, .int .u64 ((y1.2.1 : Nat) : Int), .int .u64 ((y1.2.2 : Nat) : Int), .int .i64 0, .int .i64 0] rfl _ Tryz.underlying34 rfl (by kernel_rfl))) rfl ?_
    exact ⟨by simp only [seqT, h0, h1]; rfl, (below_cur hb1.out hJ.k (by omega)).trans (hcy.below (fun b hb h => by omega) (below_cur hb1.out hJ.k (by omega)).size)⟩
set_option maxRecDepth 100000 in
set_option maxHeartbeats 16000000 in
theorem scr_act3 (l : List UInt8) (wd : List UInt8) (r : List (List UInt8)) (w : World) (hw : Std w) (hL : l.length ≤ 10000) (hp : parts 32 l = wd :: r) (hkd : kindP wd = some 3) :
  Calls Tryz.prog 30 #[.string ⟨l.toArray⟩] w fun e w' => e = actE (argsP 3 r) ∧ Below w.heap.size w w' := by
 rw [args_seq3]
 have hj : restL (wd :: r) = l := by unfold restL; rw [← hp]; exact join_parts 32 l
 have hsp : ∀ x ∈ wd :: r, (32 : UInt8) ∉ x := by rw [← hp]; exact not_mem_parts 32 l
 have hl0 : (restL (wd :: r)).length ≤ 10000 := by rw [hj]; exact hL
 obtain ⟨w1, hw1⟩ : ∃ w1, w1 = (w.alloc (.cells #[.int .i64 0, .int .i64 0, .int .i64 0, .int .i64 0, .string ⟨#[]⟩, .int .u64 0, .int .u64 0, .bool false, .bool false, .int .u64 0, .int .u64 0, .int .i64 0, .int .i64 0] 34)).alloc (.cells #[.string ⟨l.toArray⟩, .bool true] 95) := ⟨_, rfl⟩
 have hb1 : Below w.heap.size w w1 := hw1 ▸ below_alloc (below_alloc (Below.refl _ _) _) _
 have hs1 : w1.heap.size = w.heap.size + 2 := by rw [hw1]; simp
 have hc1 : Cur w1 (w.heap.size + 1) (wd :: r) := by
  unfold Cur
  rw [hj, hw1]
  have := Blk.new (w.alloc (.cells #[.int .i64 0, .int .i64 0, .int .i64 0, .int .i64 0, .string ⟨#[]⟩, .int .u64 0, .int .u64 0, .bool false, .bool false, .int .u64 0, .int .u64 0, .int .i64 0, .int .i64 0] 34)) 95 #[.string ⟨l.toArray⟩, .bool true]
  rw [show (w.alloc (.cells #[.int .i64 0, .int .i64 0, .int .i64 0, .int .i64 0, .string ⟨#[]⟩, .int .u64 0, .int .u64 0, .bool false, .bool false, .int .u64 0, .int .u64 0, .int .i64 0, .int .i64 0] 34)).heap.size = w.heap.size + 1 by simp] at this
  exact this
 have hr1 : Blk w1 w.heap.size 34 #[.int .i64 0, .int .i64 0, .int .i64 0, .int .i64 0, .string ⟨#[]⟩, .int .u64 0, .int .u64 0, .bool false, .bool false, .int .u64 0, .int .u64 0, .int .i64 0, .int .i64 0] := by rw [hw1]; exact (Blk.new w 34 #[.int .i64 0, .int .i64 0, .int .i64 0, .int .i64 0, .string ⟨#[]⟩, .int .u64 0, .int .u64 0, .bool false, .bool false, .int .u64 0, .int .u64 0, .int .i64 0, .int .i64 0]).alloc _
 have hS : ∀ W, Chg (· = w.heap.size + 1) w1 W → Std W := fun W h => hw.below (below_cur hb1 h (by omega))
 have KK := reads_kind (w.heap.size + 1) (wd :: r) w1 (hw.below hb1) hc1 hsp hl0 hS
 have ht : takeP kindP (wd :: r) = some (3, r) := by show (kindP wd).map (fun v => (v, r)) = _; rw [hkd]; rfl
 have hsp' := (take_sp ht hsp hl0).1
 have hl' := (take_sp ht hsp hl0).2
 simp only [ht] at KK
 replace KK := Lib.hid (show Calls Tryz.prog 54 #[.pointer (some ⟨w.heap.size + 1, 0, none⟩)] w1 fun e w' => Chg (· = w.heap.size + 1) w1 w' ∧ e = .returned (.int .i64 3) ∧ Cur w' (w.heap.size + 1) r from KK)
 replace hS := Lib.hid hS
 clear ht hsp hl0 hkd hc1
 replace hp := Lib.hid hp
 replace hj := Lib.hid hj
 replace hL := Lib.hid hL
 go_enter Tryz.func30, Tryz.ntmps30
 go_upto_region 2 with fail
 rw [← hw1]
 clear hw1
 have h2g : ¬ w.heap.size = w.heap.size + 1 := by omega
 replace hb1 := Lib.hid hb1
 replace h2g := Lib.hid h2g
 go_upto_region 3 with (go_at_call 54; (refine KK.out.mono ?_); rintro e w2 ⟨hk2, rfl, hc2⟩)
 have hb4 : w1.heap.size ≤ w2.heap.size := hk2.size
 have hI : AInv w1 (w2.alloc (.cells #[.int .i64 3, .int .i64 0, .int .i64 0, .int .i64 0, .string ⟨#[]⟩, .int .u64 0, .int .u64 0, .bool false, .bool false, .int .u64 0, .int .u64 0, .int .i64 0, .int .i64 0] 34)) (w.heap.size + 1) w.heap.size w2.heap.size r #[.int .i64 3, .int .i64 0, .int .i64 0, .int .i64 0, .string ⟨#[]⟩, .int .u64 0, .int .u64 0, .bool false, .bool false, .int .u64 0, .int .u64 0, .int .i64 0, .int .i64 0] #[.int .i64 0, .int .i64 0, .int .i64 0, .int .i64 0, .string ⟨#[]⟩, .int .u64 0, .int .u64 0, .bool false, .bool false, .int .u64 0, .int .u64 0, .int .i64 0, .int .i64 0] := ⟨hk2.alloc _, Blk.alloc hc2 _, Blk.new _ _ _, (hr1.chg hk2 h2g.out).alloc _⟩
 clear hk2 hc2 hr1
 generalize w2.alloc (.cells #[.int .i64 3, .int .i64 0, .int .i64 0, .int .i64 0, .string ⟨#[]⟩, .int .u64 0, .int .u64 0, .bool false, .bool false, .int .u64 0, .int .u64 0, .int .i64 0, .int .i64 0] 34) = w3 at *
 generalize w2.heap.size = b4 at *
 have h4g : ¬ b4 = w.heap.size + 1 := by omega
 have h42 : ¬ b4 = w.heap.size := by omega
 have c0 : w3.cell? ⟨b4, 0, none⟩ = some (.int .i64 3) := hI.b.cell 0
 replace hb4 := Lib.hid hb4
 clear hs1
 go_upto_region 11 with fail
 cases h0 : takeP numP r with
 | none =>
  have R0 := Lib.hid (read_no (z := #[.int .i64 0, .int .i64 0, .int .i64 0, .int .i64 0, .string ⟨#[]⟩, .int .u64 0, .int .u64 0, .bool false, .bool false, .int .u64 0, .int .u64 0, .int .i64 0, .int .i64 0]) (cs := #[.int .i64 3, .int .i64 0, .int .i64 0, .int .i64 0, .string ⟨#[]⟩, .int .u64 0, .int .u64 0, .bool false, .bool false, .int .u64 0, .int .u64 0, .int .i64 0, .int .i64 0]) reads_number hS.out h2g.out h4g hsp' hl' h0)
  go_wp2_with (first
   | (go_at_call 55; (with_reducible refine (R0.out _ hI).mono ?_); rintro e wn ⟨rfl, hkn⟩))
  exact ⟨rfl, by simp only [seqT, h0]; rfl, below_cur hb1.out hkn (by omega)⟩
 | some v0 =>
  obtain ⟨y0, r1⟩ := v0
  obtain ⟨hsp1, hl1⟩ := take_sp h0 hsp' hl'
  have R0 := Lib.hid (read_yes (z := #[.int .i64 0, .int .i64 0, .int .i64 0, .int .i64 0, .string ⟨#[]⟩, .int .u64 0, .int .u64 0, .bool false, .bool false, .int .u64 0, .int .u64 0, .int .i64 0, .int .i64 0]) (cs := #[.int .i64 3, .int .i64 0, .int .i64 0, .int .i64 0, .string ⟨#[]⟩, .int .u64 0, .int .u64 0, .bool false, .bool false, .int .u64 0, .int .u64 0, .int .i64 0, .int .i64 0]) reads_number hS.out h2g.out h4g hsp' hl' h0)
  go_upto_region 26 with (first
   | (go_at_call 55; (with_reducible refine (R0.out _ hI).mono ?_); rintro e w4 ⟨rfl, hI1⟩; have d2 := Blk.frozen hI1.b 2; have q2 : w4.cell? ⟨b4, 2, none⟩ = some (.int .i64 0) := Blk.cell hI1.b 2))
  have hJ : AInv w1 (w4.setCell ⟨b4, 2, none⟩ (.int .i64 y0)) (w.heap.size + 1) w.heap.size b4 r1 #[.int .i64 3, .int .i64 0, .int .i64 y0, .int .i64 0, .string ⟨#[]⟩, .int .u64 0, .int .u64 0, .bool false, .bool false, .int .u64 0, .int .u64 0, .int .i64 0, .int .i64 0] #[.int .i64 0, .int .i64 0, .int .i64 0, .int .i64 0, .string ⟨#[]⟩, .int .u64 0, .int .u64 0, .bool false, .bool false, .int .u64 0, .int .u64 0, .int .i64 0, .int .i64 0] := (hI1.set h4g h42 hb4.out 2 (.int .i64 y0))
  generalize (w4.setCell ⟨b4, 2, none⟩ (.int .i64 y0)) = wz at *
  clear c0 d2 q2 hI hI1
  cases r1 with
  | cons a t =>
   have k1 : wz.cell? ⟨w.heap.size + 1, 1, none⟩ = some (.bool true) := Blk.cell hJ.c 1
   have MF := Lib.hid must_false
   go_wp2_with (go_at_call 60; (refine (MF.out _).mono ?_); rintro e wn ⟨rfl, rfl⟩)
   exact ⟨rfl, by simp only [seqT, h0]; rfl, below_cur hb1.out hJ.k (by omega)⟩
  | nil =>
   have k1 : wz.cell? ⟨w.heap.size + 1, 1, none⟩ = some (.bool false) := Blk.cell hJ.c 1
   have MT := Lib.hid must_true
   go_wp2_with (first
    | (go_at_call 60; (refine (MT.out _).mono ?_); rintro e wn ⟨rfl, rfl⟩)
    | (with_reducible refine wpList_load_blk rfl 34 (.tmp 4) rfl b4 0 rfl hJ.b [.int .i64 3, .int .i64 0, .int .i64 y0, .int .i64 0, .string ⟨#[]⟩, .int .u64 0, .int .u64 0, .bool false, .bool false, .int .u64 0, .int .u64 0, .int .i64 0, .int .i64 0] rfl _ Tryz.underlying34 rfl (by kernel_rfl) ?_)
    | (with_reducible refine wpList_store_blk rfl rfl 34 (.tmp 2) (.tmp 95) rfl w.heap.size 0 rfl hJ.r [.int .i64 3, .int .i64 0, .int .i64 y0, .int .i64 0, .string ⟨#[]⟩, .int .u64 0, .int .u64 0, .bool false, .bool false, .int .u64 0, .int .u64 0, .int .i64 0, .int .i64 0] rfl (Nat.le_of_ble_eq_true (by kernel_rfl)) (by kernel_rfl) rfl ?_; intro wy hBy hcy hzy))
   refine bodyPost_ret (v := .agg #[.int .i64 3, .int .i64 0, .int .i64 y0, .int .i64 0, .string ⟨#[]⟩, .int .u64 0, .int .u64 0, .bool false, .bool false, .int .u64 0, .int .u64 0, .int .i64 0, .int .i64 0]) (results_cell rfl rfl (loadVar_blk 34 hBy [.int .i64 3, .int .i64 0, .int .i64 y0, .int .i64 0, .string ⟨#[]⟩, .int .u64 0, .int .u64 0, .bool false, .bool false, .int .u64 0, .int .u64 0, .int .i64 0, .int .i64 0] rfl _ Tryz.underlying34 rfl (by kernel_rfl))) rfl ?_
   exact ⟨by simp only [seqT, h0]; rfl, (below_cur hb1.out hJ.k (by omega)).trans (hcy.below (fun b hb h => by omega) (below_cur hb1.out hJ.k (by omega)).size)⟩
set_option maxRecDepth 100000 in
set_option maxHeartbeats 16000000 in
theorem scr_act4 (l : List UInt8) (wd : List UInt8) (r : List (List UInt8)) (w : World) (hw : Std w) (hL : l.length ≤ 10000) (hp : parts 32 l = wd :: r) (hkd : kindP wd = some 4) :
  Calls Tryz.prog 30 #[.string ⟨l.toArray⟩] w fun e w' => e = actE (argsP 4 r) ∧ Below w.heap.size w w' := by
 rw [args_seq4]
 have hj : restL (wd :: r) = l := by unfold restL; rw [← hp]; exact join_parts 32 l
 have hsp : ∀ x ∈ wd :: r, (32 : UInt8) ∉ x := by rw [← hp]; exact not_mem_parts 32 l
 have hl0 : (restL (wd :: r)).length ≤ 10000 := by rw [hj]; exact hL
 obtain ⟨w1, hw1⟩ : ∃ w1, w1 = (w.alloc (.cells #[.int .i64 0, .int .i64 0, .int .i64 0, .int .i64 0, .string ⟨#[]⟩, .int .u64 0, .int .u64 0, .bool false, .bool false, .int .u64 0, .int .u64 0, .int .i64 0, .int .i64 0] 34)).alloc (.cells #[.string ⟨l.toArray⟩, .bool true] 95) := ⟨_, rfl⟩
 have hb1 : Below w.heap.size w w1 := hw1 ▸ below_alloc (below_alloc (Below.refl _ _) _) _
 have hs1 : w1.heap.size = w.heap.size + 2 := by rw [hw1]; simp
 have hc1 : Cur w1 (w.heap.size + 1) (wd :: r) := by
  unfold Cur
  rw [hj, hw1]
  have := Blk.new (w.alloc (.cells #[.int .i64 0, .int .i64 0, .int .i64 0, .int .i64 0, .string ⟨#[]⟩, .int .u64 0, .int .u64 0, .bool false, .bool false, .int .u64 0, .int .u64 0, .int .i64 0, .int .i64 0] 34)) 95 #[.string ⟨l.toArray⟩, .bool true]
  rw [show (w.alloc (.cells #[.int .i64 0, .int .i64 0, .int .i64 0, .int .i64 0, .string ⟨#[]⟩, .int .u64 0, .int .u64 0, .bool false, .bool false, .int .u64 0, .int .u64 0, .int .i64 0, .int .i64 0] 34)).heap.size = w.heap.size + 1 by simp] at this
  exact this
 have hr1 : Blk w1 w.heap.size 34 #[.int .i64 0, .int .i64 0, .int .i64 0, .int .i64 0, .string ⟨#[]⟩, .int .u64 0, .int .u64 0, .bool false, .bool false, .int .u64 0, .int .u64 0, .int .i64 0, .int .i64 0] := by rw [hw1]; exact (Blk.new w 34 #[.int .i64 0, .int .i64 0, .int .i64 0, .int .i64 0, .string ⟨#[]⟩, .int .u64 0, .int .u64 0, .bool false, .bool false, .int .u64 0, .int .u64 0, .int .i64 0, .int .i64 0]).alloc _
 have hS : ∀ W, Chg (· = w.heap.size + 1) w1 W → Std W := fun W h => hw.below (below_cur hb1 h (by omega))
 have KK := reads_kind (w.heap.size + 1) (wd :: r) w1 (hw.below hb1) hc1 hsp hl0 hS
 have ht : takeP kindP (wd :: r) = some (4, r) := by show (kindP wd).map (fun v => (v, r)) = _; rw [hkd]; rfl
 have hsp' := (take_sp ht hsp hl0).1
 have hl' := (take_sp ht hsp hl0).2
 simp only [ht] at KK
 replace KK := Lib.hid (show Calls Tryz.prog 54 #[.pointer (some ⟨w.heap.size + 1, 0, none⟩)] w1 fun e w' => Chg (· = w.heap.size + 1) w1 w' ∧ e = .returned (.int .i64 4) ∧ Cur w' (w.heap.size + 1) r from KK)
 replace hS := Lib.hid hS
 clear ht hsp hl0 hkd hc1
 replace hp := Lib.hid hp
 replace hj := Lib.hid hj
 replace hL := Lib.hid hL
 go_enter Tryz.func30, Tryz.ntmps30
 go_upto_region 2 with fail
 rw [← hw1]
 clear hw1
 have h2g : ¬ w.heap.size = w.heap.size + 1 := by omega
 replace hb1 := Lib.hid hb1
 replace h2g := Lib.hid h2g
 go_upto_region 3 with (go_at_call 54; (refine KK.out.mono ?_); rintro e w2 ⟨hk2, rfl, hc2⟩)
 have hb4 : w1.heap.size ≤ w2.heap.size := hk2.size
 have hI : AInv w1 (w2.alloc (.cells #[.int .i64 4, .int .i64 0, .int .i64 0, .int .i64 0, .string ⟨#[]⟩, .int .u64 0, .int .u64 0, .bool false, .bool false, .int .u64 0, .int .u64 0, .int .i64 0, .int .i64 0] 34)) (w.heap.size + 1) w.heap.size w2.heap.size r #[.int .i64 4, .int .i64 0, .int .i64 0, .int .i64 0, .string ⟨#[]⟩, .int .u64 0, .int .u64 0, .bool false, .bool false, .int .u64 0, .int .u64 0, .int .i64 0, .int .i64 0] #[.int .i64 0, .int .i64 0, .int .i64 0, .int .i64 0, .string ⟨#[]⟩, .int .u64 0, .int .u64 0, .bool false, .bool false, .int .u64 0, .int .u64 0, .int .i64 0, .int .i64 0] := ⟨hk2.alloc _, Blk.alloc hc2 _, Blk.new _ _ _, (hr1.chg hk2 h2g.out).alloc _⟩
 clear hk2 hc2 hr1
 generalize w2.alloc (.cells #[.int .i64 4, .int .i64 0, .int .i64 0, .int .i64 0, .string ⟨#[]⟩, .int .u64 0, .int .u64 0, .bool false, .bool false, .int .u64 0, .int .u64 0, .int .i64 0, .int .i64 0] 34) = w3 at *
 generalize w2.heap.size = b4 at *
 have h4g : ¬ b4 = w.heap.size + 1 := by omega
 have h42 : ¬ b4 = w.heap.size := by omega
 have c0 : w3.cell? ⟨b4, 0, none⟩ = some (.int .i64 4) := hI.b.cell 0
 replace hb4 := Lib.hid hb4
 clear hs1
 go_upto_region 14 with fail
 cases h0 : takeP numP r with
 | none =>
  have R0 := Lib.hid (read_no (z := #[.int .i64 0, .int .i64 0, .int .i64 0, .int .i64 0, .string ⟨#[]⟩, .int .u64 0, .int .u64 0, .bool false, .bool false, .int .u64 0, .int .u64 0, .int .i64 0, .int .i64 0]) (cs := #[.int .i64 4, .int .i64 0, .int .i64 0, .int .i64 0, .string ⟨#[]⟩, .int .u64 0, .int .u64 0, .bool false, .bool false, .int .u64 0, .int .u64 0, .int .i64 0, .int .i64 0]) reads_number hS.out h2g.out h4g hsp' hl' h0)
  go_wp2_with (first
   | (go_at_call 55; (with_reducible refine (R0.out _ hI).mono ?_); rintro e wn ⟨rfl, hkn⟩))
  exact ⟨rfl, by simp only [seqT, h0]; rfl, below_cur hb1.out hkn (by omega)⟩
 | some v0 =>
  obtain ⟨y0, r1⟩ := v0
  obtain ⟨hsp1, hl1⟩ := take_sp h0 hsp' hl'
  have R0 := Lib.hid (read_yes (z := #[.int .i64 0, .int .i64 0, .int .i64 0, .int .i64 0, .string ⟨#[]⟩, .int .u64 0, .int .u64 0, .bool false, .bool false, .int .u64 0, .int .u64 0, .int .i64 0, .int .i64 0]) (cs := #[.int .i64 4, .int .i64 0, .int .i64 0, .int .i64 0, .string ⟨#[]⟩, .int .u64 0, .int .u64 0, .bool false, .bool false, .int .u64 0, .int .u64 0, .int .i64 0, .int .i64 0]) reads_number hS.out h2g.out h4g hsp' hl' h0)
  cases h1 : takeP onP r1 with
  | none =>
   have R1 := Lib.hid (read_no (z := #[.int .i64 0, .int .i64 0, .int .i64 0, .int .i64 0, .string ⟨#[]⟩, .int .u64 0, .int .u64 0, .bool false, .bool false, .int .u64 0, .int .u64 0, .int .i64 0, .int .i64 0]) (cs := #[.int .i64 4, .int .i64 0, .int .i64 0, .int .i64 0, .string ⟨#[]⟩, .int .u64 0, .int .u64 0, .bool false, .bool false, .int .u64 0, .int .u64 0, .int .i64 0, .int .i64 0]) reads_on hS.out h2g.out h4g hsp1 hl1 h1)
   go_wp2_with (first
    | (go_at_call 55; (with_reducible refine (R0.out _ hI).mono ?_); rintro e w4 ⟨rfl, hI1⟩)
    | (go_at_call 59; (with_reducible refine (R1.out _ hI1).mono ?_); rintro e wn ⟨rfl, hkn⟩))
   exact ⟨rfl, by simp only [seqT, h0, h1]; rfl, below_cur hb1.out hkn (by omega)⟩
  | some v1 =>
   obtain ⟨y1, r2⟩ := v1
   obtain ⟨hsp2, hl2⟩ := take_sp h1 hsp1 hl1
   have R1 := Lib.hid (read_yes (z := #[.int .i64 0, .int .i64 0, .int .i64 0, .int .i64 0, .string ⟨#[]⟩, .int .u64 0, .int .u64 0, .bool false, .bool false, .int .u64 0, .int .u64 0, .int .i64 0, .int .i64 0]) (cs := #[.int .i64 4, .int .i64 0, .int .i64 0, .int .i64 0, .string ⟨#[]⟩, .int .u64 0, .int .u64 0, .bool false, .bool false, .int .u64 0, .int .u64 0, .int .i64 0, .int .i64 0]) reads_on hS.out h2g.out h4g hsp1 hl1 h1)
   go_upto_region 26 with (first
    | (go_at_call 55; (with_reducible refine (R0.out _ hI).mono ?_); rintro e w4 ⟨rfl, hI1⟩)
    | (go_at_call 59; (with_reducible refine (R1.out _ hI1).mono ?_); rintro e w5 ⟨rfl, hI2⟩; have d2 := Blk.frozen hI2.b 2; have q2 : w5.cell? ⟨b4, 2, none⟩ = some (.int .i64 0) := Blk.cell hI2.b 2; have d7 := Blk.frozen hI2.b 7; have q7 : w5.cell? ⟨b4, 7, none⟩ = some (.bool false) := Blk.cell hI2.b 7))
   have hJ : AInv w1 ((w5.setCell ⟨b4, 2, none⟩ (.int .i64 y0)).setCell ⟨b4, 7, none⟩ (.bool y1)) (w.heap.size + 1) w.heap.size b4 r2 #[.int .i64 4, .int .i64 0, .int .i64 y0, .int .i64 0, .string ⟨#[]⟩, .int .u64 0, .int .u64 0, .bool y1, .bool false, .int .u64 0, .int .u64 0, .int .i64 0, .int .i64 0] #[.int .i64 0, .int .i64 0, .int .i64 0, .int .i64 0, .string ⟨#[]⟩, .int .u64 0, .int .u64 0, .bool false, .bool false, .int .u64 0, .int .u64 0, .int .i64 0, .int .i64 0] := ((hI2.set h4g h42 hb4.out 2 (.int .i64 y0)).set h4g h42 hb4.out 7 (.bool y1))
   generalize ((w5.setCell ⟨b4, 2, none⟩ (.int .i64 y0)).setCell ⟨b4, 7, none⟩ (.bool y1)) = wz at *
   clear c0 d2 q2 d7 q7 hI hI1 hI2
   cases r2 with
   | cons a t =>
    have k1 : wz.cell? ⟨w.heap.size + 1, 1, none⟩ = some (.bool true) := Blk.cell hJ.c 1
    have MF := Lib.hid must_false
    go_wp2_with (go_at_call 60; (refine (MF.out _).mono ?_); rintro e wn ⟨rfl, rfl⟩)
    exact ⟨rfl, by simp only [seqT, h0, h1]; rfl, below_cur hb1.out hJ.k (by omega)⟩
   | nil =>
    have k1 : wz.cell? ⟨w.heap.size + 1, 1, none⟩ = some (.bool false) := Blk.cell hJ.c 1
    have MT := Lib.hid must_true
    go_wp2_with (first
     | (go_at_call 60; (refine (MT.out _).mono ?_); rintro e wn ⟨rfl, rfl⟩)
     | (with_reducible refine wpList_load_blk rfl 34 (.tmp 4) rfl b4 0 rfl hJ.b [.int .i64 4, .int .i64 0, .int .i64 y0, .int .i64 0, .string ⟨#[]⟩, .int .u64 0, .int .u64 0, .bool y1, .bool false, .int .u64 0, .int .u64 0, .int .i64 0, .int .i64 0] rfl _ Tryz.underlying34 rfl (by kernel_rfl) ?_)
     | (with_reducible refine wpList_store_blk rfl rfl 34 (.tmp 2) (.tmp 95) rfl w.heap.size 0 rfl hJ.r [.int .i64 4, .int .i64 0, .int .i64 y0, .int .i64 0, .string ⟨#[]⟩, .int .u64 0, .int .u64 0, .bool y1, .bool false, .int .u64 0, .int .u64 0, .int .i64 0, .int .i64 0] rfl (Nat.le_of_ble_eq_true (by kernel_rfl)) (by kernel_rfl) rfl ?_; intro wy hBy hcy hzy))
    refine bodyPost_ret (v := .agg #[.int .i64 4, .int .i64 0, .int .i64 y0, .int .i64 0, .string ⟨#[]⟩, .int .u64 0, .int .u64 0, .bool y1, .bool false, .int .u64 0, .int .u64 0, .int .i64 0, .int .i64 0]) (results_cell rfl rfl (loadVar_blk 34 hBy [.int .i64 4, .int .i64 0, .int .i64 y0, .int .i64 0, .string ⟨#[]⟩, .int .u64 0, .int .u64 0, .bool y1, .bool false, .int .u64 0, .int .u64 0, .int .i64 0, .int .i64 0] rfl _ Tryz.underlying34 rfl (by kernel_rfl))) rfl ?_
    exact ⟨by simp only [seqT, h0, h1]; rfl, (below_cur hb1.out hJ.k (by omega)).trans (hcy.below (fun b hb h => by omega) (below_cur hb1.out hJ.k (by omega)).size)⟩
set_option maxRecDepth 100000 in
set_option maxHeartbeats 16000000 in
theorem scr_act5 (l : List UInt8) (wd : List UInt8) (r : List (List UInt8)) (w : World) (hw : Std w) (hL : l.length ≤ 10000) (hp : parts 32 l = wd :: r) (hkd : kindP wd = some 5) :
  Calls Tryz.prog 30 #[.string ⟨l.toArray⟩] w fun e w' => e = actE (argsP 5 r) ∧ Below w.heap.size w w' := by
 rw [args_seq5]
 have hj : restL (wd :: r) = l := by unfold restL; rw [← hp]; exact join_parts 32 l
 have hsp : ∀ x ∈ wd :: r, (32 : UInt8) ∉ x := by rw [← hp]; exact not_mem_parts 32 l
 have hl0 : (restL (wd :: r)).length ≤ 10000 := by rw [hj]; exact hL
 obtain ⟨w1, hw1⟩ : ∃ w1, w1 = (w.alloc (.cells #[.int .i64 0, .int .i64 0, .int .i64 0, .int .i64 0, .string ⟨#[]⟩, .int .u64 0, .int .u64 0, .bool false, .bool false, .int .u64 0, .int .u64 0, .int .i64 0, .int .i64 0] 34)).alloc (.cells #[.string ⟨l.toArray⟩, .bool true] 95) := ⟨_, rfl⟩
 have hb1 : Below w.heap.size w w1 := hw1 ▸ below_alloc (below_alloc (Below.refl _ _) _) _
 have hs1 : w1.heap.size = w.heap.size + 2 := by rw [hw1]; simp
 have hc1 : Cur w1 (w.heap.size + 1) (wd :: r) := by
  unfold Cur
  rw [hj, hw1]
  have := Blk.new (w.alloc (.cells #[.int .i64 0, .int .i64 0, .int .i64 0, .int .i64 0, .string ⟨#[]⟩, .int .u64 0, .int .u64 0, .bool false, .bool false, .int .u64 0, .int .u64 0, .int .i64 0, .int .i64 0] 34)) 95 #[.string ⟨l.toArray⟩, .bool true]
  rw [show (w.alloc (.cells #[.int .i64 0, .int .i64 0, .int .i64 0, .int .i64 0, .string ⟨#[]⟩, .int .u64 0, .int .u64 0, .bool false, .bool false, .int .u64 0, .int .u64 0, .int .i64 0, .int .i64 0] 34)).heap.size = w.heap.size + 1 by simp] at this
  exact this
 have hr1 : Blk w1 w.heap.size 34 #[.int .i64 0, .int .i64 0, .int .i64 0, .int .i64 0, .string ⟨#[]⟩, .int .u64 0, .int .u64 0, .bool false, .bool false, .int .u64 0, .int .u64 0, .int .i64 0, .int .i64 0] := by rw [hw1]; exact (Blk.new w 34 #[.int .i64 0, .int .i64 0, .int .i64 0, .int .i64 0, .string ⟨#[]⟩, .int .u64 0, .int .u64 0, .bool false, .bool false, .int .u64 0, .int .u64 0, .int .i64 0, .int .i64 0]).alloc _
 have hS : ∀ W, Chg (· = w.heap.size + 1) w1 W → Std W := fun W h => hw.below (below_cur hb1 h (by omega))
 have KK := reads_kind (w.heap.size + 1) (wd :: r) w1 (hw.below hb1) hc1 hsp hl0 hS
 have ht : takeP kindP (wd :: r) = some (5, r) := by show (kindP wd).map (fun v => (v, r)) = _; rw [hkd]; rfl
 have hsp' := (take_sp ht hsp hl0).1
 have hl' := (take_sp ht hsp hl0).2
 simp only [ht] at KK
 replace KK := Lib.hid (show Calls Tryz.prog 54 #[.pointer (some ⟨w.heap.size + 1, 0, none⟩)] w1 fun e w' => Chg (· = w.heap.size + 1) w1 w' ∧ e = .returned (.int .i64 5) ∧ Cur w' (w.heap.size + 1) r from KK)
 replace hS := Lib.hid hS
 clear ht hsp hl0 hkd hc1
 replace hp := Lib.hid hp
 replace hj := Lib.hid hj
 replace hL := Lib.hid hL
 go_enter Tryz.func30, Tryz.ntmps30
 go_upto_region 2 with fail
 rw [← hw1]
 clear hw1
 have h2g : ¬ w.heap.size = w.heap.size + 1 := by omega
 replace hb1 := Lib.hid hb1
 replace h2g := Lib.hid h2g
 go_upto_region 3 with (go_at_call 54; (refine KK.out.mono ?_); rintro e w2 ⟨hk2, rfl, hc2⟩)
 have hb4 : w1.heap.size ≤ w2.heap.size := hk2.size
 have hI : AInv w1 (w2.alloc (.cells #[.int .i64 5, .int .i64 0, .int .i64 0, .int .i64 0, .string ⟨#[]⟩, .int .u64 0, .int .u64 0, .bool false, .bool false, .int .u64 0, .int .u64 0, .int .i64 0, .int .i64 0] 34)) (w.heap.size + 1) w.heap.size w2.heap.size r #[.int .i64 5, .int .i64 0, .int .i64 0, .int .i64 0, .string ⟨#[]⟩, .int .u64 0, .int .u64 0, .bool false, .bool false, .int .u64 0, .int .u64 0, .int .i64 0, .int .i64 0] #[.int .i64 0, .int .i64 0, .int .i64 0, .int .i64 0, .string ⟨#[]⟩, .int .u64 0, .int .u64 0, .bool false, .bool false, .int .u64 0, .int .u64 0, .int .i64 0, .int .i64 0] := ⟨hk2.alloc _, Blk.alloc hc2 _, Blk.new _ _ _, (hr1.chg hk2 h2g.out).alloc _⟩
 clear hk2 hc2 hr1
 generalize w2.alloc (.cells #[.int .i64 5, .int .i64 0, .int .i64 0, .int .i64 0, .string ⟨#[]⟩, .int .u64 0, .int .u64 0, .bool false, .bool false, .int .u64 0, .int .u64 0, .int .i64 0, .int .i64 0] 34) = w3 at *
 generalize w2.heap.size = b4 at *
 have h4g : ¬ b4 = w.heap.size + 1 := by omega
 have h42 : ¬ b4 = w.heap.size := by omega
 have c0 : w3.cell? ⟨b4, 0, none⟩ = some (.int .i64 5) := hI.b.cell 0
 replace hb4 := Lib.hid hb4
 clear hs1
 go_upto_region 16 with fail
 cases h0 : takeP numP r with
 | none =>
  have R0 := Lib.hid (read_no (z := #[.int .i64 0, .int .i64 0, .int .i64 0, .int .i64 0, .string ⟨#[]⟩, .int .u64 0, .int .u64 0, .bool false, .bool false, .int .u64 0, .int .u64 0, .int .i64 0, .int .i64 0]) (cs := #[.int .i64 5, .int .i64 0, .int .i64 0, .int .i64 0, .string ⟨#[]⟩, .int .u64 0, .int .u64 0, .bool false, .bool false, .int .u64 0, .int .u64 0, .int .i64 0, .int .i64 0]) reads_number hS.out h2g.out h4g hsp' hl' h0)
  go_wp2_with (first
   | (go_at_call 55; (with_reducible refine (R0.out _ hI).mono ?_); rintro e wn ⟨rfl, hkn⟩))
  exact ⟨rfl, by simp only [seqT, h0]; rfl, below_cur hb1.out hkn (by omega)⟩
 | some v0 =>
  obtain ⟨y0, r1⟩ := v0
  obtain ⟨hsp1, hl1⟩ := take_sp h0 hsp' hl'
  have R0 := Lib.hid (read_yes (z := #[.int .i64 0, .int .i64 0, .int .i64 0, .int .i64 0, .string ⟨#[]⟩, .int .u64 0, .int .u64 0, .bool false, .bool false, .int .u64 0, .int .u64 0, .int .i64 0, .int .i64 0]) (cs := #[.int .i64 5, .int .i64 0, .int .i64 0, .int .i64 0, .string ⟨#[]⟩, .int .u64 0, .int .u64 0, .bool false, .bool false, .int .u64 0, .int .u64 0, .int .i64 0, .int .i64 0]) reads_number hS.out h2g.out h4g hsp' hl' h0)
  cases h1 : takeP numP r1 with
  | none =>
   have R1 := Lib.hid (read_no (z := #[.int .i64 0, .int .i64 0, .int .i64 0, .int .i64 0, .string ⟨#[]⟩, .int .u64 0, .int .u64 0, .bool false, .bool false, .int .u64 0, .int .u64 0, .int .i64 0, .int .i64 0]) (cs := #[.int .i64 5, .int .i64 0, .int .i64 0, .int .i64 0, .string ⟨#[]⟩, .int .u64 0, .int .u64 0, .bool false, .bool false, .int .u64 0, .int .u64 0, .int .i64 0, .int .i64 0]) reads_number hS.out h2g.out h4g hsp1 hl1 h1)
   go_wp2_with (first
    | (go_at_call 55; (with_reducible refine (R0.out _ hI).mono ?_); rintro e w4 ⟨rfl, hI1⟩)
    | (go_at_call 55; (with_reducible refine (R1.out _ hI1).mono ?_); rintro e wn ⟨rfl, hkn⟩))
   exact ⟨rfl, by simp only [seqT, h0, h1]; rfl, below_cur hb1.out hkn (by omega)⟩
  | some v1 =>
   obtain ⟨y1, r2⟩ := v1
   obtain ⟨hsp2, hl2⟩ := take_sp h1 hsp1 hl1
   have R1 := Lib.hid (read_yes (z := #[.int .i64 0, .int .i64 0, .int .i64 0, .int .i64 0, .string ⟨#[]⟩, .int .u64 0, .int .u64 0, .bool false, .bool false, .int .u64 0, .int .u64 0, .int .i64 0, .int .i64 0]) (cs := #[.int .i64 5, .int .i64 0, .int .i64 0, .int .i64 0, .string ⟨#[]⟩, .int .u64 0, .int .u64 0, .bool false, .bool false, .int .u64 0, .int .u64 0, .int .i64 0, .int .i64 0]) reads_number hS.out h2g.out h4g hsp1 hl1 h1)
   go_upto_region 26 with (first
    | (go_at_call 55; (with_reducible refine (R0.out _ hI).mono ?_); rintro e w4 ⟨rfl, hI1⟩)
    | (go_at_call 55; (with_reducible refine (R1.out _ hI1).mono ?_); rintro e w5 ⟨rfl, hI2⟩; have d2 := Blk.frozen hI2.b 2; have q2 : w5.cell? ⟨b4, 2, none⟩ = some (.int .i64 0) := Blk.cell hI2.b 2; have d3 := Blk.frozen hI2.b 3; have q3 : w5.cell? ⟨b4, 3, none⟩ = some (.int .i64 0) := Blk.cell hI2.b 3))
   have hJ : AInv w1 ((w5.setCell ⟨b4, 2, none⟩ (.int .i64 y0)).setCell ⟨b4, 3, none⟩ (.int .i64 y1)) (w.heap.size + 1) w.heap.size b4 r2 #[.int .i64 5, .int .i64 0, .int .i64 y0, .int .i64 y1, .string ⟨#[]⟩, .int .u64 0, .int .u64 0, .bool false, .bool false, .int .u64 0, .int .u64 0, .int .i64 0, .int .i64 0] #[.int .i64 0, .int .i64 0, .int .i64 0, .int .i64 0, .string ⟨#[]⟩, .int .u64 0, .int .u64 0, .bool false, .bool false, .int .u64 0, .int .u64 0, .int .i64 0, .int .i64 0] := ((hI2.set h4g h42 hb4.out 2 (.int .i64 y0)).set h4g h42 hb4.out 3 (.int .i64 y1))
   generalize ((w5.setCell ⟨b4, 2, none⟩ (.int .i64 y0)).setCell ⟨b4, 3, none⟩ (.int .i64 y1)) = wz at *
   clear c0 d2 q2 d3 q3 hI hI1 hI2
   cases r2 with
   | cons a t =>
    have k1 : wz.cell? ⟨w.heap.size + 1, 1, none⟩ = some (.bool true) := Blk.cell hJ.c 1
    have MF := Lib.hid must_false
    go_wp2_with (go_at_call 60; (refine (MF.out _).mono ?_); rintro e wn ⟨rfl, rfl⟩)
    exact ⟨rfl, by simp only [seqT, h0, h1]; rfl, below_cur hb1.out hJ.k (by omega)⟩
   | nil =>
    have k1 : wz.cell? ⟨w.heap.size + 1, 1, none⟩ = some (.bool false) := Blk.cell hJ.c 1
    have MT := Lib.hid must_true
    go_wp2_with (first
     | (go_at_call 60; (refine (MT.out _).mono ?_); rintro e wn ⟨rfl, rfl⟩)
     | (with_reducible refine wpList_load_blk rfl 34 (.tmp 4) rfl b4 0 rfl hJ.b [.int .i64 5, .int .i64 0, .int .i64 y0, .int .i64 y1, .string ⟨#[]⟩, .int .u64 0, .int .u64 0, .bool false, .bool false, .int .u64 0, .int .u64 0, .int .i64 0, .int .i64 0] rfl _ Tryz.underlying34 rfl (by kernel_rfl) ?_)
     | (with_reducible refine wpList_store_blk rfl rfl 34 (.tmp 2) (.tmp 95) rfl w.heap.size 0 rfl hJ.r [.int .i64 5, .int .i64 0, .int .i64 y0, .int .i64 y1, .string ⟨#[]⟩, .int .u64 0, .int .u64 0, .bool false, .bool false, .int .u64 0, .int .u64 0, .int .i64 0, .int .i64 0] rfl (Nat.le_of_ble_eq_true (by kernel_rfl)) (by kernel_rfl) rfl ?_; intro wy hBy hcy hzy))
    refine bodyPost_ret (v := .agg #[.int .i64 5, .int .i64 0, .int .i64 y0, .int .i64 y1, .string ⟨#[]⟩, .int .u64 0, .int .u64 0, .bool false, .bool false, .int .u64 0, .int .u64 0, .int .i64 0, .int .i64 0]) (results_cell rfl rfl (loadVar_blk 34 hBy [.int .i64 5, .int .i64 0, .int .i64 y0, .int .i64 y1, .string ⟨#[]⟩, .int .u64 0, .int .u64 0, .bool false, .bool false, .int .u64 0, .int .u64 0, .int .i64 0, .int .i64 0] rfl _ Tryz.underlying34 rfl (by kernel_rfl))) rfl ?_
    exact ⟨by simp only [seqT, h0, h1]; rfl, (below_cur hb1.out hJ.k (by omega)).trans (hcy.below (fun b hb h => by omega) (below_cur hb1.out hJ.k (by omega)).size)⟩
end Go.Proofs.YtodbgjnccngljaaGreatDoor
