/- sip: rotations and rounds. sip: the program's round. sip: mix, take. cloakroomref12: Round. cloakroomref12: Mix. cloakroomref12: word. sip: New. -/
import Derived.Test.YtnmmjchhinfbpaaSlices
import Derived.RegionTactic
import Derived.Deep.RegionHeld3
import Derived.Deep.QuietTactic
import Derived.BigQuiet
import Derived.StillTailTactics
import Derived.Lib.ConvBytes
namespace Go.Proofs.Ytnmmjchhinfbpaa
open Go Go.RowKit Go.Deep

def addU (a b : Int) : Int := IntKind.u64.wrap (a + b)
def xorU (a b : Int) : Int := bits BinOp.xor IntKind.u64 a b
def rot13 (x : Int) : Int := bits BinOp.or IntKind.u64 (IntKind.u64.wrap (x * 8192)) (x / 2251799813685248)
theorem rot13_any (x : Int) (w : World) : Calls Try.prog 121 #[.int .u64 x, .int .i64 13] w fun e w' => e = .returned (.int .u64 (rot13 x)) ∧ w = w' := by
  have hb : bits BinOp.and IntKind.u64 13 63 = 13 := by decide
  go_enter Try.func121, Try.ntmps121
  go_wp2
  go_ret
  exact ⟨rfl, rfl⟩
theorem turn13_any (x : Int) (w : World) : Calls Try.prog 102 #[.int .u64 x, .int .i64 13] w fun e w' => e = .returned (.int .u64 (rot13 x)) ∧ Below w.heap.size w w' := by
  go_enter Try.func102, Try.ntmps102
  go_wp2
  go_quiet (fail)
  go_wp2
  go_ret
  exact ⟨rfl, below_drewN (Below.refl _ _) _⟩
def rot16 (x : Int) : Int := bits BinOp.or IntKind.u64 (IntKind.u64.wrap (x * 65536)) (x / 281474976710656)
theorem rot16_any (x : Int) (w : World) : Calls Try.prog 121 #[.int .u64 x, .int .i64 16] w fun e w' => e = .returned (.int .u64 (rot16 x)) ∧ w = w' := by
  have hb : bits BinOp.and IntKind.u64 16 63 = 16 := by decide
  go_enter Try.func121, Try.ntmps121
  go_wp2
  go_ret
  exact ⟨rfl, rfl⟩
theorem turn16_any (x : Int) (w : World) : Calls Try.prog 102 #[.int .u64 x, .int .i64 16] w fun e w' => e = .returned (.int .u64 (rot16 x)) ∧ Below w.heap.size w w' := by
  go_enter Try.func102, Try.ntmps102
  go_wp2
  go_quiet (fail)
  go_wp2
  go_ret
  exact ⟨rfl, below_drewN (Below.refl _ _) _⟩
def rot17 (x : Int) : Int := bits BinOp.or IntKind.u64 (IntKind.u64.wrap (x * 131072)) (x / 140737488355328)
theorem rot17_any (x : Int) (w : World) : Calls Try.prog 121 #[.int .u64 x, .int .i64 17] w fun e w' => e = .returned (.int .u64 (rot17 x)) ∧ w = w' := by
  have hb : bits BinOp.and IntKind.u64 17 63 = 17 := by decide
  go_enter Try.func121, Try.ntmps121
  go_wp2
  go_ret
  exact ⟨rfl, rfl⟩
theorem turn17_any (x : Int) (w : World) : Calls Try.prog 102 #[.int .u64 x, .int .i64 17] w fun e w' => e = .returned (.int .u64 (rot17 x)) ∧ Below w.heap.size w w' := by
  go_enter Try.func102, Try.ntmps102
  go_wp2
  go_quiet (fail)
  go_wp2
  go_ret
  exact ⟨rfl, below_drewN (Below.refl _ _) _⟩
def rot21 (x : Int) : Int := bits BinOp.or IntKind.u64 (IntKind.u64.wrap (x * 2097152)) (x / 8796093022208)
theorem rot21_any (x : Int) (w : World) : Calls Try.prog 121 #[.int .u64 x, .int .i64 21] w fun e w' => e = .returned (.int .u64 (rot21 x)) ∧ w = w' := by
  have hb : bits BinOp.and IntKind.u64 21 63 = 21 := by decide
  go_enter Try.func121, Try.ntmps121
  go_wp2
  go_ret
  exact ⟨rfl, rfl⟩
theorem turn21_any (x : Int) (w : World) : Calls Try.prog 102 #[.int .u64 x, .int .i64 21] w fun e w' => e = .returned (.int .u64 (rot21 x)) ∧ Below w.heap.size w w' := by
  go_enter Try.func102, Try.ntmps102
  go_wp2
  go_quiet (fail)
  go_wp2
  go_ret
  exact ⟨rfl, below_drewN (Below.refl _ _) _⟩
def rot32 (x : Int) : Int := bits BinOp.or IntKind.u64 (IntKind.u64.wrap (x * 4294967296)) (x / 4294967296)
theorem rot32_any (x : Int) (w : World) : Calls Try.prog 121 #[.int .u64 x, .int .i64 32] w fun e w' => e = .returned (.int .u64 (rot32 x)) ∧ w = w' := by
  have hb : bits BinOp.and IntKind.u64 32 63 = 32 := by decide
  go_enter Try.func121, Try.ntmps121
  go_wp2
  go_ret
  exact ⟨rfl, rfl⟩
theorem turn32_any (x : Int) (w : World) : Calls Try.prog 102 #[.int .u64 x, .int .i64 32] w fun e w' => e = .returned (.int .u64 (rot32 x)) ∧ Below w.heap.size w w' := by
  go_enter Try.func102, Try.ntmps102
  go_wp2
  go_quiet (fail)
  go_wp2
  go_ret
  exact ⟨rfl, below_drewN (Below.refl _ _) _⟩

structure Sip where
  a : Int
  b : Int
  c : Int
  d : Int
def sround (s : Sip) : Sip :=
  let a := addU s.a s.b
  let b := xorU (rot13 s.b) a
  let a := rot32 a
  let c := addU s.c s.d
  let d := xorU (rot16 s.d) c
  let a := addU a d
  let d := xorU (rot21 d) a
  let c := addU c b
  let b := xorU (rot17 b) c
  let c := rot32 c
  ⟨a, b, c, d⟩
def sipF (f : Nat → Value) (o : Nat) (s : Sip) : Nat → Value := fun j => if j = o then .int .u64 s.a else if j = o + 1 then .int .u64 s.b else if j = o + 2 then .int .u64 s.c else if j = o + 3 then .int .u64 s.d else f j
theorem sip_seta {w : World} {g : Nat} {t : TypeId} {n o : Nat} {f : Nat → Value} {s : Sip} (h : w.rowIs g t n (sipF f o s)) (x : Int) : (w.setCell ⟨g, o, none⟩ (.int .u64 x)).rowIs g t n (sipF f o ⟨x, s.b, s.c, s.d⟩) :=
  (h.set (o) _).congr fun j _ => by
    unfold sipF
    repeat' split
    all_goals (first | rfl | omega)
theorem sip_setb {w : World} {g : Nat} {t : TypeId} {n o : Nat} {f : Nat → Value} {s : Sip} (h : w.rowIs g t n (sipF f o s)) (x : Int) : (w.setCell ⟨g, o + 1, none⟩ (.int .u64 x)).rowIs g t n (sipF f o ⟨s.a, x, s.c, s.d⟩) :=
  (h.set (o + 1) _).congr fun j _ => by
    unfold sipF
    repeat' split
    all_goals (first | rfl | omega)
theorem sip_setc {w : World} {g : Nat} {t : TypeId} {n o : Nat} {f : Nat → Value} {s : Sip} (h : w.rowIs g t n (sipF f o s)) (x : Int) : (w.setCell ⟨g, o + 2, none⟩ (.int .u64 x)).rowIs g t n (sipF f o ⟨s.a, s.b, x, s.d⟩) :=
  (h.set (o + 2) _).congr fun j _ => by
    unfold sipF
    repeat' split
    all_goals (first | rfl | omega)
theorem sip_setd {w : World} {g : Nat} {t : TypeId} {n o : Nat} {f : Nat → Value} {s : Sip} (h : w.rowIs g t n (sipF f o s)) (x : Int) : (w.setCell ⟨g, o + 3, none⟩ (.int .u64 x)).rowIs g t n (sipF f o ⟨s.a, s.b, s.c, x⟩) :=
  (h.set (o + 3) _).congr fun j _ => by
    unfold sipF
    repeat' split
    all_goals (first | rfl | omega)
end Go.Proofs.Ytnmmjchhinfbpaa

namespace Go.Proofs.Ytnmmjchhinfbpaa
open Go Go.RowKit Go.Deep

set_option maxRecDepth 100000 in
set_option maxHeartbeats 4000000 in
theorem sipround_any (g o : Nat) (t : TypeId) (n : Nat) (f : Nat → Value) (s : Sip) (w : World) (h0 : w.rowIs g t n (sipF f o s)) (hn : o + 3 < n) :
    Calls Try.prog 113 #[.pointer (some ⟨g, o, none⟩)] w fun e w' => e = .returned (.tuple #[]) ∧ w'.rowIs g t n (sipF f o (sround s)) ∧ Chg (· = g) w w' := by
  obtain ⟨a0, b0, c0, d0⟩ := s
  have hc0 := Chg.refl (· = g) w
  go_enter Try.func113, Try.ntmps113
  have r1 := h0.cell (i := o) (by omega)
  have q1 := h0.frozen (o)
  have r2 := h0.cell (i := o + 1) (by omega)
  simp [sipF] at r1 r2
  go_wp2_with fail
  go_region
  clear r1 q1 r2
  generalize hy1 : IntKind.u64.wrap (a0 + b0) = a1 at *
  replace hy1 := Lib.hid hy1
  have h1 := (sip_seta h0 a1).drew
  have hc1 : Chg (· = g) w ((w.setCell ⟨g, o, none⟩ (.int .u64 a1)).drew) := (hc0.setCell (p := ⟨g, o, none⟩) (fun _ => rfl) _).drew
  generalize (w.setCell ⟨g, o, none⟩ (.int .u64 a1)).drew = w1 at *
  clear h0 hc0
  have r1 := h1.cell (i := o + 1) (by omega)
  have q1 := h1.frozen (o + 1)
  have r2 := h1.cell (i := o) (by omega)
  simp [sipF] at r1 r2
  go_wp2_with fail
  refine wp_region_still_tail 13 (by kernel_rfl) (by kernel_rfl) ?_
  simp only [List.take_succ_cons, List.take_zero, List.drop_succ_cons, List.drop_zero]
  repeat still_step
  still_call ((rot13_any b0 _).mono (fun _ _ h => ⟨h.1, h.2.symm⟩))
  repeat still_step
  refine wpStill_nil ?_
  change wpList _ _ _ _ _ w1.drew
  have h1' : w1.drew.rowIs g t n _ := h1.drew
  have r1' : w1.drew.cell? _ = _ := r1
  have q1' : w1.drew.frozen? _ = _ := q1
  have hc1' : Chg (· = g) w w1.drew := hc1.drew
  generalize w1.drew = v2 at *
  clear h1 r1 q1 hc1 r2
  go_wp2_with fail
  clear r1' q1'
  generalize hy2 : bits BinOp.xor IntKind.u64 (rot13 b0) a1 = b2 at *
  replace hy2 := Lib.hid hy2
  have h2 := (sip_setb h1' b2)
  have hc2 : Chg (· = g) w ((v2.setCell ⟨g, o + 1, none⟩ (.int .u64 b2))) := (hc1'.setCell (p := ⟨g, o + 1, none⟩) (fun _ => rfl) _)
  generalize (v2.setCell ⟨g, o + 1, none⟩ (.int .u64 b2)) = w2 at *
  clear h1' hc1'
  have r1 := h2.cell (i := o) (by omega)
  have q1 := h2.frozen (o)
  simp [sipF] at r1
  go_wp2_with fail
  refine wp_region_still_tail 8 (by kernel_rfl) (by kernel_rfl) ?_
  simp only [List.take_succ_cons, List.take_zero, List.drop_succ_cons, List.drop_zero]
  repeat still_step
  still_call ((rot32_any a1 _).mono (fun _ _ h => ⟨h.1, h.2.symm⟩))
  repeat still_step
  refine wpStill_nil ?_
  change wpList _ _ _ _ _ w2.drew
  have h2' : w2.drew.rowIs g t n _ := h2.drew
  have r1' : w2.drew.cell? _ = _ := r1
  have q1' : w2.drew.frozen? _ = _ := q1
  have hc2' : Chg (· = g) w w2.drew := hc2.drew
  generalize w2.drew = v3 at *
  clear h2 r1 q1 hc2
  go_wp2_with fail
  clear r1' q1'
  generalize hy3 : rot32 a1 = a3 at *
  replace hy3 := Lib.hid hy3
  have h3 := (sip_seta h2' a3)
  have hc3 : Chg (· = g) w ((v3.setCell ⟨g, o, none⟩ (.int .u64 a3))) := (hc2'.setCell (p := ⟨g, o, none⟩) (fun _ => rfl) _)
  generalize (v3.setCell ⟨g, o, none⟩ (.int .u64 a3)) = w3 at *
  clear h2' hc2'
  have r1 := h3.cell (i := o + 2) (by omega)
  have q1 := h3.frozen (o + 2)
  have r2 := h3.cell (i := o + 3) (by omega)
  simp [sipF] at r1 r2
  go_wp2_with fail
  go_region
  clear r1 q1 r2
  generalize hy4 : IntKind.u64.wrap (c0 + d0) = c4 at *
  replace hy4 := Lib.hid hy4
  have h4 := (sip_setc h3 c4).drew
  have hc4 : Chg (· = g) w ((w3.setCell ⟨g, o + 2, none⟩ (.int .u64 c4)).drew) := (hc3.setCell (p := ⟨g, o + 2, none⟩) (fun _ => rfl) _).drew
  generalize (w3.setCell ⟨g, o + 2, none⟩ (.int .u64 c4)).drew = w4 at *
  clear h3 hc3
  have r1 := h4.cell (i := o + 3) (by omega)
  have q1 := h4.frozen (o + 3)
  have r2 := h4.cell (i := o + 2) (by omega)
  simp [sipF] at r1 r2
  go_wp2_with fail
  refine wp_region_still_tail 13 (by kernel_rfl) (by kernel_rfl) ?_
  simp only [List.take_succ_cons, List.take_zero, List.drop_succ_cons, List.drop_zero]
  repeat still_step
  still_call ((rot16_any d0 _).mono (fun _ _ h => ⟨h.1, h.2.symm⟩))
  repeat still_step
  refine wpStill_nil ?_
  change wpList _ _ _ _ _ w4.drew
  have h4' : w4.drew.rowIs g t n _ := h4.drew
  have r1' : w4.drew.cell? _ = _ := r1
  have q1' : w4.drew.frozen? _ = _ := q1
  have hc4' : Chg (· = g) w w4.drew := hc4.drew
  generalize w4.drew = v5 at *
  clear h4 r1 q1 hc4 r2
  go_wp2_with fail
  clear r1' q1'
  generalize hy5 : bits BinOp.xor IntKind.u64 (rot16 d0) c4 = d5 at *
  replace hy5 := Lib.hid hy5
  have h5 := (sip_setd h4' d5)
  have hc5 : Chg (· = g) w ((v5.setCell ⟨g, o + 3, none⟩ (.int .u64 d5))) := (hc4'.setCell (p := ⟨g, o + 3, none⟩) (fun _ => rfl) _)
  generalize (v5.setCell ⟨g, o + 3, none⟩ (.int .u64 d5)) = w5 at *
  clear h4' hc4'
  have r1 := h5.cell (i := o) (by omega)
  have q1 := h5.frozen (o)
  have r2 := h5.cell (i := o + 3) (by omega)
  simp [sipF] at r1 r2
  go_wp2_with fail
  go_region
  clear r1 q1 r2
  generalize hy6 : IntKind.u64.wrap (a3 + d5) = a6 at *
  replace hy6 := Lib.hid hy6
  have h6 := (sip_seta h5 a6).drew
  have hc6 : Chg (· = g) w ((w5.setCell ⟨g, o, none⟩ (.int .u64 a6)).drew) := (hc5.setCell (p := ⟨g, o, none⟩) (fun _ => rfl) _).drew
  generalize (w5.setCell ⟨g, o, none⟩ (.int .u64 a6)).drew = w6 at *
  clear h5 hc5
  have r1 := h6.cell (i := o + 3) (by omega)
  have q1 := h6.frozen (o + 3)
  have r2 := h6.cell (i := o) (by omega)
  simp [sipF] at r1 r2
  go_wp2_with fail
  refine wp_region_still_tail 13 (by kernel_rfl) (by kernel_rfl) ?_
  simp only [List.take_succ_cons, List.take_zero, List.drop_succ_cons, List.drop_zero]
  repeat still_step
  still_call ((rot21_any d5 _).mono (fun _ _ h => ⟨h.1, h.2.symm⟩))
  repeat still_step
  refine wpStill_nil ?_
  change wpList _ _ _ _ _ w6.drew
  have h6' : w6.drew.rowIs g t n _ := h6.drew
  have r1' : w6.drew.cell? _ = _ := r1
  have q1' : w6.drew.frozen? _ = _ := q1
  have hc6' : Chg (· = g) w w6.drew := hc6.drew
  generalize w6.drew = v7 at *
  clear h6 r1 q1 hc6 r2
  go_wp2_with fail
  clear r1' q1'
  generalize hy7 : bits BinOp.xor IntKind.u64 (rot21 d5) a6 = d7 at *
  replace hy7 := Lib.hid hy7
  have h7 := (sip_setd h6' d7)
  have hc7 : Chg (· = g) w ((v7.setCell ⟨g, o + 3, none⟩ (.int .u64 d7))) := (hc6'.setCell (p := ⟨g, o + 3, none⟩) (fun _ => rfl) _)
  generalize (v7.setCell ⟨g, o + 3, none⟩ (.int .u64 d7)) = w7 at *
  clear h6' hc6'
  have r1 := h7.cell (i := o + 2) (by omega)
  have q1 := h7.frozen (o + 2)
  have r2 := h7.cell (i := o + 1) (by omega)
  simp [sipF] at r1 r2
  go_wp2_with fail
  go_region
  clear r1 q1 r2
  generalize hy8 : IntKind.u64.wrap (c4 + b2) = c8 at *
  replace hy8 := Lib.hid hy8
  have h8 := (sip_setc h7 c8).drew
  have hc8 : Chg (· = g) w ((w7.setCell ⟨g, o + 2, none⟩ (.int .u64 c8)).drew) := (hc7.setCell (p := ⟨g, o + 2, none⟩) (fun _ => rfl) _).drew
  generalize (w7.setCell ⟨g, o + 2, none⟩ (.int .u64 c8)).drew = w8 at *
  clear h7 hc7
  have r1 := h8.cell (i := o + 1) (by omega)
  have q1 := h8.frozen (o + 1)
  have r2 := h8.cell (i := o + 2) (by omega)
  simp [sipF] at r1 r2
  go_wp2_with fail
  refine wp_region_still_tail 13 (by kernel_rfl) (by kernel_rfl) ?_
  simp only [List.take_succ_cons, List.take_zero, List.drop_succ_cons, List.drop_zero]
  repeat still_step
  still_call ((rot17_any b2 _).mono (fun _ _ h => ⟨h.1, h.2.symm⟩))
  repeat still_step
  refine wpStill_nil ?_
  change wpList _ _ _ _ _ w8.drew
  have h8' : w8.drew.rowIs g t n _ := h8.drew
  have r1' : w8.drew.cell? _ = _ := r1
  have q1' : w8.drew.frozen? _ = _ := q1
  have hc8' : Chg (· = g) w w8.drew := hc8.drew
  generalize w8.drew = v9 at *
  clear h8 r1 q1 hc8 r2
  go_wp2_with fail
  clear r1' q1'
  generalize hy9 : bits BinOp.xor IntKind.u64 (rot17 b2) c8 = b9 at *
  replace hy9 := Lib.hid hy9
  have h9 := (sip_setb h8' b9)
  have hc9 : Chg (· = g) w ((v9.setCell ⟨g, o + 1, none⟩ (.int .u64 b9))) := (hc8'.setCell (p := ⟨g, o + 1, none⟩) (fun _ => rfl) _)
  generalize (v9.setCell ⟨g, o + 1, none⟩ (.int .u64 b9)) = w9 at *
  clear h8' hc8'
  have r1 := h9.cell (i := o + 2) (by omega)
  have q1 := h9.frozen (o + 2)
  simp [sipF] at r1
  go_wp2_with fail
  refine wp_region_still_tail 8 (by kernel_rfl) (by kernel_rfl) ?_
  simp only [List.take_succ_cons, List.take_zero, List.drop_succ_cons, List.drop_zero]
  repeat still_step
  still_call ((rot32_any c8 _).mono (fun _ _ h => ⟨h.1, h.2.symm⟩))
  repeat still_step
  refine wpStill_nil ?_
  change wpList _ _ _ _ _ w9.drew
  have h9' : w9.drew.rowIs g t n _ := h9.drew
  have r1' : w9.drew.cell? _ = _ := r1
  have q1' : w9.drew.frozen? _ = _ := q1
  have hc9' : Chg (· = g) w w9.drew := hc9.drew
  generalize w9.drew = v10 at *
  clear h9 r1 q1 hc9
  go_wp2_with fail
  clear r1' q1'
  generalize hy10 : rot32 c8 = c10 at *
  replace hy10 := Lib.hid hy10
  have h10 := (sip_setc h9' c10)
  have hc10 : Chg (· = g) w ((v10.setCell ⟨g, o + 2, none⟩ (.int .u64 c10))) := (hc9'.setCell (p := ⟨g, o + 2, none⟩) (fun _ => rfl) _)
  generalize (v10.setCell ⟨g, o + 2, none⟩ (.int .u64 c10)) = w10 at *
  clear h9' hc9'
  go_end0
  obtain rfl := hy10.out
  obtain rfl := hy9.out
  obtain rfl := hy8.out
  obtain rfl := hy7.out
  obtain rfl := hy6.out
  obtain rfl := hy5.out
  obtain rfl := hy4.out
  obtain rfl := hy3.out
  obtain rfl := hy2.out
  obtain rfl := hy1.out
  exact ⟨rfl, h10, hc10⟩
end Go.Proofs.Ytnmmjchhinfbpaa

namespace Go.Proofs.Ytnmmjchhinfbpaa
open Go Go.RowKit Go.Deep

def siter : Nat → Sip → Sip
  | 0, s => s
  | k + 1, s => sround (siter k s)
def stake (s : Sip) (m : Int) : Sip :=
  let t := siter 2 ⟨s.a, s.b, s.c, xorU s.d m⟩
  ⟨xorU t.a m, t.b, t.c, t.d⟩

set_option maxHeartbeats 1000000 in
theorem mix_any (g o : Nat) (t : TypeId) (n : Nat) (f : Nat → Value) (s : Sip) (k : Nat) (w : World) (h : w.rowIs g t n (sipF f o s)) (hn : o + 3 < n) (hk : k ≤ 64) (hk0 : 0 < k) :
    Calls Try.prog 91 #[.pointer (some ⟨g, o, none⟩), .int .i64 k] w fun e w' => e = .returned (.tuple #[]) ∧ w'.rowIs g t n (sipF f o (siter k s)) ∧ Chg (· = g) w w' := by
  go_enter Try.func91, Try.ntmps91
  go_wp2_with fail
  go_loopw [7] (fun i wr => ∃ j : Nat, j ≤ k ∧ i = .int .i64 j ∧ wr.rowIs g t n (sipF f o (siter j s)) ∧ Chg (· = g) w wr) (fun i _ => k - (intOf i).toNat)
  case atStart => exact ⟨0, by omega, rfl, h, Chg.refl _ _⟩
  case round =>
    obtain ⟨j, hj, rfl, hr, hc⟩ := hrel
    clear h
    by_cases hlt : j < k
    · have hlti : (j : Int) < (k : Int) := by omega
      go_wp2_with (go_at_call 113; refine (sipround_any g o t n f (siter j s) _ hr hn).mono ?_; rintro e w1 ⟨rfl, hr1, hc1⟩)
      go_roundw
      case rel => exact ⟨j + 1, by omega, by go_num, hr1, hc.trans hc1 (fun _ _ h => h)⟩
      case measure => simp [intOf]; omega
    · obtain rfl : j = k := by omega
      have hlti : ¬ (j : Int) < (j : Int) := by omega
      go_wp2_with fail
      go_end0
      exact ⟨rfl, hr, hc⟩

set_option maxHeartbeats 1000000 in
theorem take_any (g o : Nat) (t : TypeId) (n : Nat) (f : Nat → Value) (s : Sip) (m : Int) (w : World) (h : w.rowIs g t n (sipF f o s)) (hn : o + 3 < n) :
    Calls Try.prog 90 #[.pointer (some ⟨g, o, none⟩), .int .u64 m] w fun e w' => e = .returned (.tuple #[]) ∧ w'.rowIs g t n (sipF f o (stake s m)) ∧ Chg (· = g) w w' := by
  obtain ⟨a0, b0, c0, d0⟩ := s
  have r1 := h.cell (i := o + 3) (by omega)
  have q1 := h.frozen (o + 3)
  simp [sipF] at r1
  go_enter Try.func90, Try.ntmps90
  go_wp2_with fail
  go_region
  clear r1 q1
  obtain ⟨y, hy⟩ : ∃ y, bits BinOp.xor IntKind.u64 d0 m = y := ⟨_, rfl⟩
  rw [hy]
  have h1 := (sip_setd h y).drew
  have hc1 : Chg (· = g) w (w.setCell ⟨g, o + 3, none⟩ (.int .u64 y)).drew := ((Chg.refl (· = g) w).setCell (p := ⟨g, o + 3, none⟩) (fun _ => rfl) _).drew
  generalize (w.setCell ⟨g, o + 3, none⟩ (.int .u64 y)).drew = w1 at *
  obtain ⟨s1, hs1⟩ : ∃ s1, siter 2 ⟨a0, b0, c0, y⟩ = s1 := ⟨_, rfl⟩
  have M := mix_any g o t n f ⟨a0, b0, c0, y⟩ 2 w1 h1 hn (by omega) (by omega)
  rw [hs1] at M
  have hT : stake ⟨a0, b0, c0, d0⟩ m = ⟨xorU s1.a m, s1.b, s1.c, s1.d⟩ := by
    rw [← hs1, ← hy]; rfl
  replace hT := Lib.hid hT
  clear h1 hs1 hy h
  go_wp2_with fail
  refine M.mono ?_
  rintro e w2 ⟨rfl, h2, hc2⟩
  have hc := hc1.trans hc2 (fun _ _ h => h)
  clear M hc1 hc2
  have r1 := h2.cell (i := o) (by omega)
  have q1 := h2.frozen o
  simp [sipF] at r1
  go_wp2_with fail
  go_region
  go_wp2_with fail
  go_end0
  rw [hT.out]
  exact ⟨rfl, (sip_seta h2 _).drew, (hc.setCell (p := ⟨g, o, none⟩) (fun _ => rfl) _).drew⟩
end Go.Proofs.Ytnmmjchhinfbpaa

namespace Go.Proofs.Ytnmmjchhinfbpaa
open Go Go.RowKit Go.Deep

set_option maxRecDepth 100000 in
set_option maxHeartbeats 2000000 in
theorem refround (s : Sip) (w : World) : Calls Try.prog 72 #[.int .u64 s.a, .int .u64 s.b, .int .u64 s.c, .int .u64 s.d] w fun e w' => e = .returned (.tuple #[.int .u64 (sround s).a, .int .u64 (sround s).b, .int .u64 (sround s).c, .int .u64 (sround s).d]) ∧ Below w.heap.size w w' := by
  obtain ⟨a, b, c, d⟩ := s
  have hb0 := Below.refl w.heap.size w
  go_enter Try.func72, Try.ntmps72
  go_wp2_with fail
  refine (turn13_any _ _).mono ?_
  rintro e w1 ⟨rfl, hb⟩
  have hb1 := below_call hb0 hb0.size hb
  clear hb
  go_wp2_with fail
  refine (turn32_any _ _).mono ?_
  rintro e w2 ⟨rfl, hb⟩
  have hb2 := below_call hb1 hb1.size hb
  clear hb
  go_wp2_with fail
  refine (turn16_any _ _).mono ?_
  rintro e w3 ⟨rfl, hb⟩
  have hb3 := below_call hb2 hb2.size hb
  clear hb
  go_wp2_with fail
  refine (turn21_any _ _).mono ?_
  rintro e w4 ⟨rfl, hb⟩
  have hb4 := below_call hb3 hb3.size hb
  clear hb
  go_wp2_with fail
  refine (turn17_any _ _).mono ?_
  rintro e w5 ⟨rfl, hb⟩
  have hb5 := below_call hb4 hb4.size hb
  clear hb
  go_wp2_with fail
  refine (turn32_any _ _).mono ?_
  rintro e w6 ⟨rfl, hb⟩
  have hb6 := below_call hb5 hb5.size hb
  clear hb
  go_wp2_with fail
  refine bodyPost_ret (v := .tuple #[.int .u64 (sround ⟨a, b, c, d⟩).a, .int .u64 (sround ⟨a, b, c, d⟩).b, .int .u64 (sround ⟨a, b, c, d⟩).c, .int .u64 (sround ⟨a, b, c, d⟩).d]) (by simp [results, Try.results72, go_sem, sround, addU, xorU]) rfl ⟨rfl, hb6⟩
end Go.Proofs.Ytnmmjchhinfbpaa

namespace Go.Proofs.Ytnmmjchhinfbpaa
open Go Go.RowKit Go.Deep

set_option maxRecDepth 100000 in
set_option maxHeartbeats 2000000 in
theorem refmix (s : Sip) (k : Nat) (w : World) (hk : k ≤ 64) : Calls Try.prog 73 #[.int .u64 s.a, .int .u64 s.b, .int .u64 s.c, .int .u64 s.d, .int .i64 k] w fun e w' => e = .returned (.agg #[.int .u64 (siter k s).a, .int .u64 (siter k s).b, .int .u64 (siter k s).c, .int .u64 (siter k s).d]) ∧ Below w.heap.size w w' := by
  have hB0 := Blk.new w 126 #[.int .u64 0, .int .u64 0, .int .u64 0, .int .u64 0]
  have hb0 : Below w.heap.size w (w.alloc (.cells #[.int .u64 0, .int .u64 0, .int .u64 0, .int .u64 0] 126)) := (Below.refl _ _).alloc (Nat.le_refl _) _
  go_enter Try.func73, Try.ntmps73
  go_wp2_with fail
  go_loopw [0, 1, 2, 3, 11] (fun a b c d i wr => ∃ j : Nat, j ≤ k ∧ i = .int .i64 j ∧ a = .int .u64 (siter j s).a ∧ b = .int .u64 (siter j s).b ∧ c = .int .u64 (siter j s).c ∧ d = .int .u64 (siter j s).d ∧ Blk wr w.heap.size 126 #[.int .u64 0, .int .u64 0, .int .u64 0, .int .u64 0] ∧ Below w.heap.size w wr) (fun _ _ _ _ i _ => k - (intOf i).toNat)
  case atStart => exact ⟨0, by omega, rfl, rfl, rfl, rfl, rfl, hB0, hb0⟩
  case round =>
    obtain ⟨j, hj, rfl, rfl, rfl, rfl, rfl, hB, hb⟩ := hrel
    clear hB0 hb0
    by_cases hlt : j < k
    · have hlti : (j : Int) < (k : Int) := by omega
      have h64 : (j : Int) < 64 := by omega
      have R := refround (siter j s) wr
      have hS : siter (j + 1) s = sround (siter j s) := rfl
      obtain ⟨t, ht⟩ : ∃ t, siter j s = t := ⟨_, rfl⟩
      rw [ht] at R hS ⊢
      obtain ⟨u, hu⟩ : ∃ u, sround t = u := ⟨_, rfl⟩
      rw [hu] at R hS
      replace hS := Lib.hid hS
      clear hu ht
      go_wp2_with (go_at_call 72; refine R.mono ?_; rintro e w1 ⟨rfl, hb1⟩)
      go_roundw
      case rel =>
        exact ⟨j + 1, by omega, by go_num, by rw [hS.out], by rw [hS.out], by rw [hS.out], by rw [hS.out], hB.below hb1 hB.lt, below_call hb hb.size hb1⟩
      case measure => simp [intOf]; omega
    · have hlti : ¬ (j : Int) < (k : Int) := by omega
      obtain rfl : j = k := by omega
      obtain ⟨t, ht⟩ : ∃ t, siter j s = t := ⟨_, rfl⟩
      rw [ht]
      replace ht := Lib.hid ht
      have c0 := hB.cell 0
      have c1 := hB.cell 1
      have c2 := hB.cell 2
      have c3 := hB.cell 3
      have q0 := hB.frozen 0
      have q1 := hB.frozen 1
      have q2 := hB.frozen 2
      have q3 := hB.frozen 3
      simp at c0 c1 c2 c3
      go_wp2_with fail
      have hB4 := (((hB.set_ 0 (.int .u64 t.a)).set_ 1 (.int .u64 t.b)).set_ 2 (.int .u64 t.c)).set_ 3 (.int .u64 t.d)
      have hb4 : Below w.heap.size w ((((wr.setCell ⟨w.heap.size, 0, none⟩ (.int .u64 t.a)).setCell ⟨w.heap.size, 1, none⟩ (.int .u64 t.b)).setCell ⟨w.heap.size, 2, none⟩ (.int .u64 t.c)).setCell ⟨w.heap.size, 3, none⟩ (.int .u64 t.d)) := (((hb.setCell (Nat.le_refl _) _).setCell (Nat.le_refl _) _).setCell (Nat.le_refl _) _).setCell (Nat.le_refl _) _
      generalize ((((wr.setCell ⟨w.heap.size, 0, none⟩ (.int .u64 t.a)).setCell ⟨w.heap.size, 1, none⟩ (.int .u64 t.b)).setCell ⟨w.heap.size, 2, none⟩ (.int .u64 t.c)).setCell ⟨w.heap.size, 3, none⟩ (.int .u64 t.d)) = w9 at *
      have d0 := hB4.cell 0
      have d1 := hB4.cell 1
      have d2 := hB4.cell 2
      have d3 := hB4.cell 3
      simp at d0 d1 d2 d3
      rw [ht.out]
      refine bodyPost_ret (v := .agg #[.int .u64 t.a, .int .u64 t.b, .int .u64 t.c, .int .u64 t.d]) (by simp [results, Try.results73, go_sem, d0, d1, d2, d3]) rfl ⟨rfl, hb4⟩
end Go.Proofs.Ytnmmjchhinfbpaa

namespace Go.Proofs.Ytnmmjchhinfbpaa
open Go Go.RowKit Go.Deep

def wordL : List UInt8 → Int
  | [] => 0
  | c :: l => addU (IntKind.u64.wrap (wordL l * 256)) (IntKind.u64.wrap (c.toNat : Int))

set_option maxHeartbeats 1000000 in
theorem refword (x : ByteArray) (w : World) (hx : x.size ≤ 1000000) : Calls Try.prog 71 #[.string x] w fun e w' => e = .returned (.int .u64 (wordL x.data.toList)) ∧ w = w' := by
  go_enter Try.func71, Try.ntmps71
  go_wp2_with fail
  go_loop [3, 4] (fun m i => ∃ j : Nat, j ≤ x.size ∧ i = .int .i64 ((j : Int) - 1) ∧ m = .int .u64 (wordL (x.data.toList.drop j))) (fun _ i => (intOf i + 1).toNat)
  case atStart =>
    have : x.data.toList.drop x.size = [] := List.drop_of_length_le (by rw [Array.length_toList]; exact Nat.le_refl _)
    exact ⟨x.size, by omega, by go_num, by rw [this]; rfl⟩
  case round =>
    obtain ⟨j, hj, rfl, rfl⟩ := hrel
    rcases Nat.eq_zero_or_pos j with rfl | hpos
    · go_wp2_with fail
      go_ret
      exact ⟨rfl, rfl⟩
    · obtain ⟨i, rfl⟩ : ∃ i, j = i + 1 := ⟨j - 1, by omega⟩
      have hge : (0 : Int) ≤ ((i + 1 : Nat) : Int) - 1 := by omega
      have hlt : i < x.data.toList.length := by rw [Array.length_toList]; exact hj
      have hd : wordL (x.data.toList.drop i) = addU (IntKind.u64.wrap (wordL (x.data.toList.drop (i + 1)) * 256)) (IntKind.u64.wrap ((x.data.toList[i]).toNat : Int)) := by
        rw [List.drop_eq_getElem_cons hlt]; rfl
      obtain ⟨m, hm⟩ : ∃ m, wordL (x.data.toList.drop (i + 1)) = m := ⟨_, rfl⟩
      rw [hm] at hd ⊢
      replace hd := Lib.hid hd
      clear hm
      go_wp2_with fail
      go_round
      case rel => exact ⟨i, by omega, rfl, by rw [hd.out]; rfl⟩
      case measure => simp [intOf]
end Go.Proofs.Ytnmmjchhinfbpaa

namespace Go.Proofs.Ytnmmjchhinfbpaa
open Go Go.RowKit Go.Deep

def hasherF (s : Sip) (last count : Int) : Nat → Value := sipF (fun j => if j = 0 then .bool true else if j = 5 then .int .u64 last else .int .i64 count) 1 s
def sip0 (a b : Int) : Sip := ⟨xorU 8317987319222330741 a, xorU 7237128888997146477 b, xorU 7816392313619706465 a, xorU 8387220255154660723 b⟩
theorem new_sip (a b : Int) (w : World) : Calls Try.prog 66 #[.agg #[.int .u64 a, .int .u64 b]] w fun e w' => ∃ g, e = .returned (.pointer (some ⟨g, 0, none⟩)) ∧ w'.rowIs g 143 7 (hasherF (sip0 a b) 0 0) ∧ Below w.heap.size w w' ∧ w.heap.size ≤ g := by
  go_enter Try.func66, Try.ntmps66
  go_wp2
  go_ret
  have hN := Blk.new (w.alloc (.cells #[.int .u64 a, .int .u64 b] 25)) 143 #[.bool true, .int .u64 (xorU 8317987319222330741 a), .int .u64 (xorU 7237128888997146477 b), .int .u64 (xorU 7816392313619706465 a), .int .u64 (xorU 8387220255154660723 b), .int .u64 0, .int .i64 0]
  rw [World.size_alloc] at hN
  refine ⟨_, rfl, ⟨_, hN, rfl, fun i hi => ?_⟩, (by repeat (first | exact Below.refl _ _ | assumption | refine below_alloc ?_ _ | refine below_chain (by assumption) ?_ | refine below_call2 (by assumption) ?_ (by first | omega | (simp; done) | (simp; omega) | (simp [World.setCell]; omega)) | refine below_drewN ?_ _ | refine Below.drew ?_ | refine Below.alloc ?_ (by first | omega | (simp; done) | (simp; omega) | (simp [World.setCell]; omega)) _ | refine Below.setCell ?_ (by first | omega | (simp; done) | (simp; omega) | (simp [World.setCell]; omega)) _)), by simp⟩
  have hi' : i = 0 ∨ i = 1 ∨ i = 2 ∨ i = 3 ∨ i = 4 ∨ i = 5 ∨ i = 6 := by omega
  rcases hi' with rfl | rfl | rfl | rfl | rfl | rfl | rfl <;> rfl
theorem bytesWorld_chg (w : World) (e : TypeId) (s : ByteArray) : Chg (fun _ => False) w (Lib.bytesWorld w e s) :=
  ⟨rfl, rfl, rfl, by rw [Lib.bytesWorld_size]; omega, fun b hb _ => Lib.bytesWorld_at_old w e s b hb⟩
end Go.Proofs.Ytnmmjchhinfbpaa
