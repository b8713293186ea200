/- sip: rotations and rounds. sip: the program's round. sip: mix, take. cloakroomref12: Round. cloakroomref12: Mix. cloakroomref12: word. sip: New. sip: Write. sip: Sum, Hash. cloakroomref12: Hash. sip: words as sums. sip: the program's hash is the document's. sip: the last word; the program's hash is the document's. sip: a hash is a number of 64 bits. -/
import Derived.Test.YteklkljndchjiaaGreatJ8
import Derived.RegionTactic
import Derived.Deep.RegionHeld3
import Derived.Deep.QuietTactic
import Derived.BigQuiet
import Derived.StillTailTactics
import Derived.Lib.ConvBytes
namespace Go.Proofs.YteklkljndchjiaaGreat
open Go Go.RowKit Go.Deep
def addU (a b : Int) : Int := IntKind.u64.wrap (a + b)
def xorU (a b : Int) : Int := bits BinOp.xor IntKind.u64 a b
def rot13 (x : Int) : Int := bits BinOp.or IntKind.u64 (IntKind.u64.wrap (x * 8192)) (x / 2251799813685248)
theorem rot13_any (x : Int) (w : World) : Calls Tryz.prog 310 #[.int .u64 x, .int .i64 13] w fun e w' => e = .returned (.int .u64 (rot13 x)) ∧ w = w' := by
 have hb : bits BinOp.and IntKind.u64 13 63 = 13 := by decide
 go_enter Tryz.func310, Tryz.ntmps310
 go_wp2
 go_ret
 exact ⟨rfl, rfl⟩
def rot16 (x : Int) : Int := bits BinOp.or IntKind.u64 (IntKind.u64.wrap (x * 65536)) (x / 281474976710656)
theorem rot16_any (x : Int) (w : World) : Calls Tryz.prog 310 #[.int .u64 x, .int .i64 16] w fun e w' => e = .returned (.int .u64 (rot16 x)) ∧ w = w' := by
 have hb : bits BinOp.and IntKind.u64 16 63 = 16 := by decide
 go_enter Tryz.func310, Tryz.ntmps310
 go_wp2
 go_ret
 exact ⟨rfl, rfl⟩
def rot17 (x : Int) : Int := bits BinOp.or IntKind.u64 (IntKind.u64.wrap (x * 131072)) (x / 140737488355328)
theorem rot17_any (x : Int) (w : World) : Calls Tryz.prog 310 #[.int .u64 x, .int .i64 17] w fun e w' => e = .returned (.int .u64 (rot17 x)) ∧ w = w' := by
 have hb : bits BinOp.and IntKind.u64 17 63 = 17 := by decide
 go_enter Tryz.func310, Tryz.ntmps310
 go_wp2
 go_ret
 exact ⟨rfl, rfl⟩
def rot21 (x : Int) : Int := bits BinOp.or IntKind.u64 (IntKind.u64.wrap (x * 2097152)) (x / 8796093022208)
theorem rot21_any (x : Int) (w : World) : Calls Tryz.prog 310 #[.int .u64 x, .int .i64 21] w fun e w' => e = .returned (.int .u64 (rot21 x)) ∧ w = w' := by
 have hb : bits BinOp.and IntKind.u64 21 63 = 21 := by decide
 go_enter Tryz.func310, Tryz.ntmps310
 go_wp2
 go_ret
 exact ⟨rfl, rfl⟩
def rot32 (x : Int) : Int := bits BinOp.or IntKind.u64 (IntKind.u64.wrap (x * 4294967296)) (x / 4294967296)
theorem rot32_any (x : Int) (w : World) : Calls Tryz.prog 310 #[.int .u64 x, .int .i64 32] w fun e w' => e = .returned (.int .u64 (rot32 x)) ∧ w = w' := by
 have hb : bits BinOp.and IntKind.u64 32 63 = 32 := by decide
 go_enter Tryz.func310, Tryz.ntmps310
 go_wp2
 go_ret
 exact ⟨rfl, rfl⟩
structure Sip where
 a : Int
 b : Int
 c : Int
 d : Int
def sround (s : Sip) : Sip :=
 let a := addU s.a s.b
 let b := xorU (rot13 s.b) a
 let a := rot32 a
 let c := addU s.c s.d
 let d := xorU (rot16 s.d) c
 let a := addU a d
 let d := xorU (rot21 d) a
 let c := addU c b
 let b := xorU (rot17 b) c
 let c := rot32 c
 ⟨a, b, c, d⟩
def sipF (f : Nat → Value) (o : Nat) (s : Sip) : Nat → Value := fun j => if j = o then .int .u64 s.a else if j = o + 1 then .int .u64 s.b else if j = o + 2 then .int .u64 s.c else if j = o + 3 then .int .u64 s.d else f j
theorem sip_seta {w : World} {g : Nat} {t : TypeId} {n o : Nat} {f : Nat → Value} {s : Sip} (h : w.rowIs g t n (sipF f o s)) (x : Int) : (w.setCell ⟨g, o, none⟩ (.int .u64 x)).rowIs g t n (sipF f o ⟨x, s.b, s.c, s.d⟩) :=
 (h.set (o) _).congr fun j _ => by
  unfold sipF
  repeat' split
  all_goals (first | rfl | omega)
theorem sip_setb {w : World} {g : Nat} {t : TypeId} {n o : Nat} {f : Nat → Value} {s : Sip} (h : w.rowIs g t n (sipF f o s)) (x : Int) : (w.setCell ⟨g, o + 1, none⟩ (.int .u64 x)).rowIs g t n (sipF f o ⟨s.a, x, s.c, s.d⟩) :=
 (h.set (o + 1) _).congr fun j _ => by
  unfold sipF
  repeat' split
  all_goals (first | rfl | omega)
theorem sip_setc {w : World} {g : Nat} {t : TypeId} {n o : Nat} {f : Nat → Value} {s : Sip} (h : w.rowIs g t n (sipF f o s)) (x : Int) : (w.setCell ⟨g, o + 2, none⟩ (.int .u64 x)).rowIs g t n (sipF f o ⟨s.a, s.b, x, s.d⟩) :=
 (h.set (o + 2) _).congr fun j _ => by
  unfold sipF
  repeat' split
  all_goals (first | rfl | omega)
theorem sip_setd {w : World} {g : Nat} {t : TypeId} {n o : Nat} {f : Nat → Value} {s : Sip} (h : w.rowIs g t n (sipF f o s)) (x : Int) : (w.setCell ⟨g, o + 3, none⟩ (.int .u64 x)).rowIs g t n (sipF f o ⟨s.a, s.b, s.c, x⟩) :=
 (h.set (o + 3) _).congr fun j _ => by
  unfold sipF
  repeat' split
  all_goals (first | rfl | omega)
set_option maxRecDepth 100000 in
set_option maxHeartbeats 4000000 in
theorem sipround_any (g o : Nat) (t : TypeId) (n : Nat) (f : Nat → Value) (s : Sip) (w : World) (h0 : w.rowIs g t n (sipF f o s)) (hn : o + 3 < n) :
  Calls Tryz.prog 294 #[.pointer (some ⟨g, o, none⟩)] w fun e w' => e = .returned (.tuple #[]) ∧ w'.rowIs g t n (sipF f o (sround s)) ∧ Chg (· = g) w w' := by
 obtain ⟨a0, b0, c0, d0⟩ := s
 have hc0 := Chg.refl (· = g) w
 go_enter Tryz.func294, Tryz.ntmps294
 have r1 := h0.cell (i := o) (by omega)
 have q1 := h0.frozen (o)
 have r2 := h0.cell (i := o + 1) (by omega)
 simp [sipF] at r1 r2
 go_wp2_with fail
 go_region
 clear r1 q1 r2
 generalize hy1 : IntKind.u64.wrap (a0 + b0) = a1 at *
 replace hy1 := Lib.hid hy1
 have h1 := (sip_seta h0 a1).drew
 have hc1 : Chg (· = g) w ((w.setCell ⟨g, o, none⟩ (.int .u64 a1)).drew) := (hc0.setCell (p := ⟨g, o, none⟩) (fun _ => rfl) _).drew
 generalize (w.setCell ⟨g, o, none⟩ (.int .u64 a1)).drew = w1 at *
 clear h0 hc0
 have r1 := h1.cell (i := o + 1) (by omega)
 have q1 := h1.frozen (o + 1)
 have r2 := h1.cell (i := o) (by omega)
 simp [sipF] at r1 r2
 go_wp2_with fail
 refine wp_region_still_tail 13 (by kernel_rfl) (by kernel_rfl) ?_
 simp only [List.take_succ_cons, List.take_zero, List.drop_succ_cons, List.drop_zero]
 repeat still_step
 still_call ((rot13_any b0 _).mono (fun _ _ h => ⟨h.1, h.2.symm⟩))
 repeat still_step
 refine wpStill_nil ?_
 change wpList _ _ _ _ _ w1.drew
 have h1' : w1.drew.rowIs g t n _ := h1.drew
 have r1' : w1.drew.cell? _ = _ := r1
 have q1' : w1.drew.frozen? _ = _ := q1
 have hc1' : Chg (· = g) w w1.drew := hc1.drew
 generalize w1.drew = v2 at *
 clear h1 r1 q1 hc1 r2
 go_wp2_with fail
 clear r1' q1'
 generalize hy2 : bits BinOp.xor IntKind.u64 (rot13 b0) a1 = b2 at *
 replace hy2 := Lib.hid hy2
 have h2 := (sip_setb h1' b2)
 have hc2 : Chg (· = g) w ((v2.setCell ⟨g, o + 1, none⟩ (.int .u64 b2))) := (hc1'.setCell (p := ⟨g, o + 1, none⟩) (fun _ => rfl) _)
 generalize (v2.setCell ⟨g, o + 1, none⟩ (.int .u64 b2)) = w2 at *
 clear h1' hc1'
 have r1 := h2.cell (i := o) (by omega)
 have q1 := h2.frozen (o)
 simp [sipF] at r1
 go_wp2_with fail
 refine wp_region_still_tail 8 (by kernel_rfl) (by kernel_rfl) ?_
 simp only [List.take_succ_cons, List.take_zero, List.drop_succ_cons, List.drop_zero]
 repeat still_step
 still_call ((rot32_any a1 _).mono (fun _ _ h => ⟨h.1, h.2.symm⟩))
 repeat still_step
 refine wpStill_nil ?_
 change wpList _ _ _ _ _ w2.drew
 have h2' : w2.drew.rowIs g t n _ := h2.drew
 have r1' : w2.drew.cell? _ = _ := r1
 have q1' : w2.drew.frozen? _ = _ := q1
 have hc2' : Chg (· = g) w w2.drew := hc2.drew
 generalize w2.drew = v3 at *
 clear h2 r1 q1 hc2
 go_wp2_with fail
 clear r1' q1'
 generalize hy3 : rot32 a1 = a3 at *
 replace hy3 := Lib.hid hy3
 have h3 := (sip_seta h2' a3)
 have hc3 : Chg (· = g) w ((v3.setCell ⟨g, o, none⟩ (.int .u64 a3))) := (hc2'.setCell (p := ⟨g, o, none⟩) (fun _ => rfl) _)
 generalize (v3.setCell ⟨g, o, none⟩ (.int .u64 a3)) = w3 at *
 clear h2' hc2'
 have r1 := h3.cell (i := o + 2) (by omega)
 have q1 := h3.frozen (o + 2)
 have r2 := h3.cell (i := o + 3) (by omega)
 simp [sipF] at r1 r2
 go_wp2_with fail
 go_region
 clear r1 q1 r2
 generalize hy4 : IntKind.u64.wrap (c0 + d0) = c4 at *
 replace hy4 := Lib.hid hy4
 have h4 := (sip_setc h3 c4).drew
 have hc4 : Chg (· = g) w ((w3.setCell ⟨g, o + 2, none⟩ (.int .u64 c4)).drew) := (hc3.setCell (p := ⟨g, o + 2, none⟩) (fun _ => rfl) _).drew
 generalize (w3.setCell ⟨g, o + 2, none⟩ (.int .u64 c4)).drew = w4 at *
 clear h3 hc3
 have r1 := h4.cell (i := o + 3) (by omega)
 have q1 := h4.frozen (o + 3)
 have r2 := h4.cell (i := o + 2) (by omega)
 simp [sipF] at r1 r2
 go_wp2_with fail
 refine wp_region_still_tail 13 (by kernel_rfl) (by kernel_rfl) ?_
 simp only [List.take_succ_cons, List.take_zero, List.drop_succ_cons, List.drop_zero]
 repeat still_step
 still_call ((rot16_any d0 _).mono (fun _ _ h => ⟨h.1, h.2.symm⟩))
 repeat still_step
 refine wpStill_nil ?_
 change wpList _ _ _ _ _ w4.drew
 have h4' : w4.drew.rowIs g t n _ := h4.drew
 have r1' : w4.drew.cell? _ = _ := r1
 have q1' : w4.drew.frozen? _ = _ := q1
 have hc4' : Chg (· = g) w w4.drew := hc4.drew
 generalize w4.drew = v5 at *
 clear h4 r1 q1 hc4 r2
 go_wp2_with fail
 clear r1' q1'
 generalize hy5 : bits BinOp.xor IntKind.u64 (rot16 d0) c4 = d5 at *
 replace hy5 := Lib.hid hy5
 have h5 := (sip_setd h4' d5)
 have hc5 : Chg (· = g) w ((v5.setCell ⟨g, o + 3, none⟩ (.int .u64 d5))) := (hc4'.setCell (p := ⟨g, o + 3, none⟩) (fun _ => rfl) _)
 generalize (v5.setCell ⟨g, o + 3, none⟩ (.int .u64 d5)) = w5 at *
 clear h4' hc4'
 have r1 := h5.cell (i := o) (by omega)
 have q1 := h5.frozen (o)
 have r2 := h5.cell (i := o + 3) (by omega)
 simp [sipF] at r1 r2
 go_wp2_with fail
 go_region
 clear r1 q1 r2
 generalize hy6 : IntKind.u64.wrap (a3 + d5) = a6 at *
 replace hy6 := Lib.hid hy6
 have h6 := (sip_seta h5 a6).drew
 have hc6 : Chg (· = g) w ((w5.setCell ⟨g, o, none⟩ (.int .u64 a6)).drew) := (hc5.setCell (p := ⟨g, o, none⟩) (fun _ => rfl) _).drew
 generalize (w5.setCell ⟨g, o, none⟩ (.int .u64 a6)).drew = w6 at *
 clear h5 hc5
 have r1 := h6.cell (i := o + 3) (by omega)
 have q1 := h6.frozen (o + 3)
 have r2 := h6.cell (i := o) (by omega)
 simp [sipF] at r1 r2
 go_wp2_with fail
 refine wp_region_still_tail 13 (by kernel_rfl) (by kernel_rfl) ?_
 simp only [List.take_succ_cons, List.take_zero, List.drop_succ_cons, List.drop_zero]
 repeat still_step
 still_call ((rot21_any d5 _).mono (fun _ _ h => ⟨h.1, h.2.symm⟩))
 repeat still_step
 refine wpStill_nil ?_
 change wpList _ _ _ _ _ w6.drew
 have h6' : w6.drew.rowIs g t n _ := h6.drew
 have r1' : w6.drew.cell? _ = _ := r1
 have q1' : w6.drew.frozen? _ = _ := q1
 have hc6' : Chg (· = g) w w6.drew := hc6.drew
 generalize w6.drew = v7 at *
 clear h6 r1 q1 hc6 r2
 go_wp2_with fail
 clear r1' q1'
 generalize hy7 : bits BinOp.xor IntKind.u64 (rot21 d5) a6 = d7 at *
 replace hy7 := Lib.hid hy7
 have h7 := (sip_setd h6' d7)
 have hc7 : Chg (· = g) w ((v7.setCell ⟨g, o + 3, none⟩ (.int .u64 d7))) := (hc6'.setCell (p := ⟨g, o + 3, none⟩) (fun _ => rfl) _)
 generalize (v7.setCell ⟨g, o + 3, none⟩ (.int .u64 d7)) = w7 at *
 clear h6' hc6'
 have r1 := h7.cell (i := o + 2) (by omega)
 have q1 := h7.frozen (o + 2)
 have r2 := h7.cell (i := o + 1) (by omega)
 simp [sipF] at r1 r2
 go_wp2_with fail
 go_region
 clear r1 q1 r2
 generalize hy8 : IntKind.u64.wrap (c4 + b2) = c8 at *
 replace hy8 := Lib.hid hy8
 have h8 := (sip_setc h7 c8).drew
 have hc8 : Chg (· = g) w ((w7.setCell ⟨g, o + 2, none⟩ (.int .u64 c8)).drew) := (hc7.setCell (p := ⟨g, o + 2, none⟩) (fun _ => rfl) _).drew
 generalize (w7.setCell ⟨g, o + 2, none⟩ (.int .u64 c8)).drew = w8 at *
 clear h7 hc7
 have r1 := h8.cell (i := o + 1) (by omega)
 have q1 := h8.frozen (o + 1)
 have r2 := h8.cell (i := o + 2) (by omega)
 simp [sipF] at r1 r2
 go_wp2_with fail
 refine wp_region_still_tail 13 (by kernel_rfl) (by kernel_rfl) ?_
 simp only [List.take_succ_cons, List.take_zero, List.drop_succ_cons, List.drop_zero]
 repeat still_step
 still_call ((rot17_any b2 _).mono (fun _ _ h => ⟨h.1, h.2.symm⟩))
 repeat still_step
 refine wpStill_nil ?_
 change wpList _ _ _ _ _ w8.drew
 have h8' : w8.drew.rowIs g t n _ := h8.drew
 have r1' : w8.drew.cell? _ = _ := r1
 have q1' : w8.drew.frozen? _ = _ := q1
 have hc8' : Chg (· = g) w w8.drew := hc8.drew
 generalize w8.drew = v9 at *
 clear h8 r1 q1 hc8 r2
 go_wp2_with fail
 clear r1' q1'
 generalize hy9 : bits BinOp.xor IntKind.u64 (rot17 b2) c8 = b9 at *
 replace hy9 := Lib.hid hy9
 have h9 := (sip_setb h8' b9)
 have hc9 : Chg (· = g) w ((v9.setCell ⟨g, o + 1, none⟩ (.int .u64 b9))) := (hc8'.setCell (p := ⟨g, o + 1, none⟩) (fun _ => rfl) _)
 generalize (v9.setCell ⟨g, o + 1, none⟩ (.int .u64 b9)) = w9 at *
 clear h8' hc8'
 have r1 := h9.cell (i := o + 2) (by omega)
 have q1 := h9.frozen (o + 2)
 simp [sipF] at r1
 go_wp2_with fail
 refine wp_region_still_tail 8 (by kernel_rfl) (by kernel_rfl) ?_
 simp only [List.take_succ_cons, List.take_zero, List.drop_succ_cons, List.drop_zero]
 repeat still_step
 still_call ((rot32_any c8 _).mono (fun _ _ h => ⟨h.1, h.2.symm⟩))
 repeat still_step
 refine wpStill_nil ?_
 change wpList _ _ _ _ _ w9.drew
 have h9' : w9.drew.rowIs g t n _ := h9.drew
 have r1' : w9.drew.cell? _ = _ := r1
 have q1' : w9.drew.frozen? _ = _ := q1
 have hc9' : Chg (· = g) w w9.drew := hc9.drew
 generalize w9.drew = v10 at *
 clear h9 r1 q1 hc9
 go_wp2_with fail
 clear r1' q1'
 generalize hy10 : rot32 c8 = c10 at *
 replace hy10 := Lib.hid hy10
 have h10 := (sip_setc h9' c10)
 have hc10 : Chg (· = g) w ((v10.setCell ⟨g, o + 2, none⟩ (.int .u64 c10))) := (hc9'.setCell (p := ⟨g, o + 2, none⟩) (fun _ => rfl) _)
 generalize (v10.setCell ⟨g, o + 2, none⟩ (.int .u64 c10)) = w10 at *
 clear h9' hc9'
 go_end0
 obtain rfl := hy10.out
 obtain rfl := hy9.out
 obtain rfl := hy8.out
 obtain rfl := hy7.out
 obtain rfl := hy6.out
 obtain rfl := hy5.out
 obtain rfl := hy4.out
 obtain rfl := hy3.out
 obtain rfl := hy2.out
 obtain rfl := hy1.out
 exact ⟨rfl, h10, hc10⟩
def siter : Nat → Sip → Sip
 | 0, s => s
 | k + 1, s => sround (siter k s)
def stake (s : Sip) (m : Int) : Sip :=
 let t := siter 2 ⟨s.a, s.b, s.c, xorU s.d m⟩
 ⟨xorU t.a m, t.b, t.c, t.d⟩
set_option maxHeartbeats 1000000 in
theorem mix_any (g o : Nat) (t : TypeId) (n : Nat) (f : Nat → Value) (s : Sip) (k : Nat) (w : World) (h : w.rowIs g t n (sipF f o s)) (hn : o + 3 < n) (hk : k ≤ 64) (hk0 : 0 < k) :
  Calls Tryz.prog 269 #[.pointer (some ⟨g, o, none⟩), .int .i64 k] w fun e w' => e = .returned (.tuple #[]) ∧ w'.rowIs g t n (sipF f o (siter k s)) ∧ Chg (· = g) w w' := by
 go_enter Tryz.func269, Tryz.ntmps269
 go_wp2_with fail
 go_loopw [7] (fun i wr => ∃ j : Nat, j ≤ k ∧ i = .int .i64 j ∧ wr.rowIs g t n (sipF f o (siter j s)) ∧ Chg (· = g) w wr) (fun i _ => k - (intOf i).toNat)
 case atStart => exact ⟨0, by omega, rfl, h, Chg.refl _ _⟩
 case round =>
  obtain ⟨j, hj, rfl, hr, hc⟩ := hrel
  clear h
  by_cases hlt : j < k
  ·
   have hlti : (j : Int) < (k : Int) := by omega
   go_wp2_with (go_at_call 294; refine (sipround_any g o t n f (siter j s) _ hr hn).mono ?_; rintro e w1 ⟨rfl, hr1, hc1⟩)
   go_roundw
   case rel => exact ⟨j + 1, by omega, by go_num, hr1, hc.trans hc1 (fun _ _ h => h)⟩
   case measure => simp [intOf]; omega
  ·
   obtain rfl : j = k := by omega
   have hlti : ¬ (j : Int) < (j : Int) := by omega
   go_wp2_with fail
   go_end0
   exact ⟨rfl, hr, hc⟩
set_option maxHeartbeats 1000000 in
theorem take_any (g o : Nat) (t : TypeId) (n : Nat) (f : Nat → Value) (s : Sip) (m : Int) (w : World) (h : w.rowIs g t n (sipF f o s)) (hn : o + 3 < n) :
  Calls Tryz.prog 268 #[.pointer (some ⟨g, o, none⟩), .int .u64 m] w fun e w' => e = .returned (.tuple #[]) ∧ w'.rowIs g t n (sipF f o (stake s m)) ∧ Chg (· = g) w w' := by
 obtain ⟨a0, b0, c0, d0⟩ := s
 have r1 := h.cell (i := o + 3) (by omega)
 have q1 := h.frozen (o + 3)
 simp [sipF] at r1
 go_enter Tryz.func268, Tryz.ntmps268
 go_wp2_with fail
 go_region
 clear r1 q1
 obtain ⟨y, hy⟩ : ∃ y, bits BinOp.xor IntKind.u64 d0 m = y := ⟨_, rfl⟩
 rw [hy]
 have h1 := (sip_setd h y).drew
 have hc1 : Chg (· = g) w (w.setCell ⟨g, o + 3, none⟩ (.int .u64 y)).drew := ((Chg.refl (· = g) w).setCell (p := ⟨g, o + 3, none⟩) (fun _ => rfl) _).drew
 generalize (w.setCell ⟨g, o + 3, none⟩ (.int .u64 y)).drew = w1 at *
 obtain ⟨s1, hs1⟩ : ∃ s1, siter 2 ⟨a0, b0, c0, y⟩ = s1 := ⟨_, rfl⟩
 have M := mix_any g o t n f ⟨a0, b0, c0, y⟩ 2 w1 h1 hn (by omega) (by omega)
 rw [hs1] at M
 have hT : stake ⟨a0, b0, c0, d0⟩ m = ⟨xorU s1.a m, s1.b, s1.c, s1.d⟩ := by
  rw [← hs1, ← hy]; rfl
 replace hT := Lib.hid hT
 clear h1 hs1 hy h
 go_wp2_with fail
 refine M.mono ?_
 rintro e w2 ⟨rfl, h2, hc2⟩
 have hc := hc1.trans hc2 (fun _ _ h => h)
 clear M hc1 hc2
 have r1 := h2.cell (i := o) (by omega)
 have q1 := h2.frozen o
 simp [sipF] at r1
 go_wp2_with fail
 go_region
 go_wp2_with fail
 go_end0
 rw [hT.out]
 exact ⟨rfl, (sip_seta h2 _).drew, (hc.setCell (p := ⟨g, o, none⟩) (fun _ => rfl) _).drew⟩
def wordL : List UInt8 → Int
 | [] => 0
 | c :: l => addU (IntKind.u64.wrap (wordL l * 256)) (IntKind.u64.wrap (c.toNat : Int))
def hasherF (s : Sip) (last count : Int) : Nat → Value := sipF (fun j => if j = 0 then .bool true else if j = 5 then .int .u64 last else .int .i64 count) 1 s
def sip0 (a b : Int) : Sip := ⟨xorU 8317987319222330741 a, xorU 7237128888997146477 b, xorU 7816392313619706465 a, xorU 8387220255154660723 b⟩
theorem new_sip (a b : Int) (w : World) : Calls Tryz.prog 224 #[.agg #[.int .u64 a, .int .u64 b]] w fun e w' => ∃ g, e = .returned (.pointer (some ⟨g, 0, none⟩)) ∧ w'.rowIs g 318 7 (hasherF (sip0 a b) 0 0) ∧ Below w.heap.size w w' ∧ w.heap.size ≤ g := by
 go_enter Tryz.func224, Tryz.ntmps224
 go_wp2
 go_ret
 have hN := Blk.new (w.alloc (.cells #[.int .u64 a, .int .u64 b] 26)) 318 #[.bool true, .int .u64 (xorU 8317987319222330741 a), .int .u64 (xorU 7237128888997146477 b), .int .u64 (xorU 7816392313619706465 a), .int .u64 (xorU 8387220255154660723 b), .int .u64 0, .int .i64 0]
 rw [World.size_alloc] at hN
 refine ⟨_, rfl, ⟨_, hN, rfl, fun i hi => ?_⟩, (by repeat (first | exact Below.refl _ _ | assumption | refine below_alloc ?_ _ | refine below_chain (by assumption) ?_ | refine below_call2 (by assumption) ?_ (by first | omega | (simp; done) | (simp; omega) | (simp [World.setCell]; omega)) | refine below_drewN ?_ _ | refine Below.drew ?_ | refine Below.alloc ?_ (by first | omega | (simp; done) | (simp; omega) | (simp [World.setCell]; omega)) _ | refine Below.setCell ?_ (by first | omega | (simp; done) | (simp; omega) | (simp [World.setCell]; omega)) _)), by simp⟩
 have hi' : i = 0 ∨ i = 1 ∨ i = 2 ∨ i = 3 ∨ i = 4 ∨ i = 5 ∨ i = 6 := by omega
 rcases hi' with rfl | rfl | rfl | rfl | rfl | rfl | rfl <;> rfl
theorem bytesWorld_chg (w : World) (e : TypeId) (s : ByteArray) : Chg (fun _ => False) w (Lib.bytesWorld w e s) :=
 ⟨rfl, rfl, rfl, by rw [Lib.bytesWorld_size]; omega, fun b hb _ => Lib.bytesWorld_at_old w e s b hb⟩
def lastS (r : Nat) (L : Int) (c : Nat) : Int := bits BinOp.or IntKind.u64 L (IntKind.u64.wrap (IntKind.u64.wrap (c : Int) * 2 ^ (8 * r)))
def hbyte (k : Nat) (st : Sip × Int) (c : Nat) : Sip × Int := if (k + 1) % 8 = 0 then (stake st.1 (lastS (k % 8) st.2 c), 0) else (st.1, lastS (k % 8) st.2 c)
def byteAt (x : ByteArray) (k : Nat) : Nat := (x.data.toList.getD k 0).toNat
def hrun (x : ByteArray) (s : Sip) : Nat → Sip × Int
 | 0 => (s, 0)
 | k + 1 => hbyte k (hrun x s k) (byteAt x k)
theorem hasher_set5 {w : World} {g : Nat} {t : TypeId} {S : Sip} {L C : Int} (h : w.rowIs g t 7 (hasherF S L C)) (x : Int) : (w.setCell ⟨g, 5, none⟩ (.int .u64 x)).rowIs g t 7 (hasherF S x C) :=
 (h.set 5 _).congr fun j hj => by
  have hj' : j = 0 ∨ j = 1 ∨ j = 2 ∨ j = 3 ∨ j = 4 ∨ j = 5 ∨ j = 6 := by omega
  rcases hj' with rfl | rfl | rfl | rfl | rfl | rfl | rfl <;> rfl
theorem hasher_set6 {w : World} {g : Nat} {t : TypeId} {S : Sip} {L C : Int} (h : w.rowIs g t 7 (hasherF S L C)) (x : Int) : (w.setCell ⟨g, 6, none⟩ (.int .i64 x)).rowIs g t 7 (hasherF S L x) :=
 (h.set 6 _).congr fun j hj => by
  have hj' : j = 0 ∨ j = 1 ∨ j = 2 ∨ j = 3 ∨ j = 4 ∨ j = 5 ∨ j = 6 := by omega
  rcases hj' with rfl | rfl | rfl | rfl | rfl | rfl | rfl <;> rfl
set_option maxRecDepth 100000 in
set_option maxHeartbeats 4000000 in
theorem write_any (g : Nat) (s : Sip) (x : ByteArray) (w : World) (h : w.rowIs g 318 7 (hasherF s 0 0)) (hx : x.size ≤ 1000000) :
  Calls Tryz.prog 225 #[.pointer (some ⟨g, 0, none⟩), .string x] w fun e w' => e = .returned (.tuple #[]) ∧ w'.rowIs g 318 7 (hasherF (hrun x s x.size).1 (hrun x s x.size).2 x.size) ∧ Chg (· = g) w w' := by
 have r0 := h.cell (i := 0) (by omega)
 have cv := Lib.run_convert_string_bytes (P := Tryz.prog) w 9 319 5 x Tryz.underlying9 Tryz.underlying319 Tryz.underlying5
 have hcW := bytesWorld_chg w 5 x
 have hcell := Lib.bytesWorld_cell w 5 x
 have hsz := Lib.bytesWorld_size w 5 x
 have hlt := h.lt
 have hW := rowIs_chg h hcW (fun h => h)
 generalize Lib.bytesWorld w 5 x = W at *
 simp [hasherF, sipF] at r0
 go_enter Tryz.func225, Tryz.ntmps225
 go_wp2_with fail
 clear cv r0 h
 go_loopw [18] (fun i wr => ∃ (k : Nat) (S : Sip) (L : Int), k ≤ x.size ∧ i = .int .i64 k ∧ hrun x s k = (S, L) ∧ wr.rowIs g 318 7 (hasherF S L k) ∧ Chg (· = g) W wr) (fun i _ => x.size - (intOf i).toNat)
 case atStart => exact ⟨0, _, _, by omega, rfl, rfl, hW, Chg.refl _ _⟩
 case round =>
  obtain ⟨k, S, L, hk, rfl, hS, hr, hc⟩ := hrel
  by_cases hlt2 : k < x.size
  ·
   have hlti : (k : Int) < (x.size : Int) := by omega
   have b0 := (cell_chg hc (a := ⟨w.heap.size, k, none⟩) (show w.heap.size < W.heap.size by omega) (show w.heap.size ≠ g by omega)).trans (hcell k hlt2)
   obtain ⟨c, hcd⟩ : ∃ c, (x.data.toList.getD k 0).toNat = c := ⟨_, rfl⟩
   rw [hcd] at b0
   have r5 := hr.cell (i := 5) (by omega)
   have r6 := hr.cell (i := 6) (by omega)
   have q5 := hr.frozen 5
   simp [hasherF, sipF] at r5 r6
   obtain ⟨r, hr8⟩ : ∃ r, k % 8 = r := ⟨_, rfl⟩
   have hr7 : r < 8 := by omega
   have tm : Int.tmod (k : Int) 8 = (r : Int) := by rw [← hr8]; simp [Int.tmod]
   have hR : hrun x s (k + 1) = hbyte k (S, L) c := by rw [← hcd, ← hS]; rfl
   unfold hbyte at hR
   simp only [hr8] at hR
   replace hR := Lib.hid hR
   replace hr8 := Lib.hid hr8
   replace hS := Lib.hid hS
   replace hcd := Lib.hid hcd
   clear hcell hW
   go_wp2_with fail
   go_region
   clear r5 r6 q5 tm b0
   obtain ⟨L', hL'⟩ : ∃ L', lastS r L c = L' := ⟨_, rfl⟩
   rw [hL'] at hR
   have hL2 : bits BinOp.or IntKind.u64 L (IntKind.u64.wrap (IntKind.u64.wrap (c : Int) * 2 ^ (8 * r))) = L' := hL'
   rw [hL2]
   have hr1 := (hasher_set5 hr L').drew
   have hc1 : Chg (· = g) W (wr.setCell ⟨g, 5, none⟩ (.int .u64 L')).drew := (hc.setCell (p := ⟨g, 5, none⟩) (fun _ => rfl) _).drew
   generalize (wr.setCell ⟨g, 5, none⟩ (.int .u64 L')).drew = w1 at *
   clear hL' hL2 hr hc
   have r6 := hr1.cell (i := 6) (by omega)
   have q6 := hr1.frozen 6
   simp [hasherF, sipF] at r6
   have hr2 := hasher_set6 hr1 ((k : Int) + 1)
   have hc2 : Chg (· = g) W (w1.setCell ⟨g, 6, none⟩ (.int .i64 ((k : Int) + 1))) := hc1.setCell (p := ⟨g, 6, none⟩) (fun _ => rfl) _
   by_cases h8 : (k + 1) % 8 = 0
   ·
    have tm : Int.tmod ((k : Int) + 1) 8 = 0 := by rw [show ((k : Int) + 1) = ((k + 1 : Nat) : Int) by omega]; simp [Int.tmod]; omega
    rw [if_pos h8] at hR
    replace h8 := Lib.hid h8
    replace hR := Lib.hid hR.out
    clear hr1 hc1
    go_wp2_with fail
    clear r6 q6 tm
    generalize (w1.setCell ⟨g, 6, none⟩ (.int .i64 ((k : Int) + 1))) = w2 at *
    have r5 := hr2.cell (i := 5) (by omega)
    simp [hasherF, sipF] at r5
    refine wp_region_still_tail 7 (by kernel_rfl) (by kernel_rfl) ?_
    simp only [List.take_succ_cons, List.take_zero, List.drop_succ_cons, List.drop_zero]
    repeat still_step
    refine wpStill_nil ?_
    change wpList _ _ _ _ _ w2.drew
    have hr3 : w2.drew.rowIs g 318 7 (hasherF S L' ((k : Int) + 1)) := hr2.drew
    have hc3 : Chg (· = g) W w2.drew := hc2.drew
    generalize w2.drew = w3 at *
    clear hr2 hc2 r5
    go_wp2_with (go_at_call 268; refine (take_any g 1 _ 7 _ S L' _ hr3 (by omega)).mono ?_; rintro e w4 ⟨rfl, hr4, hc4⟩; have hr5 : w4.rowIs g 318 7 (hasherF (stake S L') L' ((k : Int) + 1)) := hr4; have r5 := hr5.cell (i := 5) (by omega); have q5 := hr5.frozen 5; simp [hasherF, sipF] at r5)
    go_roundw
    case rel =>
     exact ⟨k + 1, _, _, by omega, by go_num, hR.out, by simpa using hasher_set5 hr5 0, (hc3.trans hc4 (fun _ _ h => h)).setCell (p := ⟨g, 5, none⟩) (fun _ => rfl) _⟩
    case measure => simp [intOf]; omega
   ·
    have tm : Int.tmod ((k : Int) + 1) 8 = (((k + 1) % 8 : Nat) : Int) := by rw [show ((k : Int) + 1) = ((k + 1 : Nat) : Int) by omega]; simp [Int.tmod]
    have tz : ((((k + 1) % 8 : Nat) : Int) == 0) = false := by simp; omega
    generalize hm : (k + 1) % 8 = m8 at *
    rw [if_neg h8] at hR
    replace h8 := Lib.hid h8
    replace hm := Lib.hid hm
    replace hR := Lib.hid hR
    clear hr1 hc1
    go_wp2_with fail
    go_roundw
    case rel => exact ⟨k + 1, _, _, by omega, by go_num, hR.out, by simpa using hr2, hc2⟩
    case measure => simp [intOf]; omega
  ·
   have hlti : ¬ (k : Int) < (x.size : Int) := by omega
   obtain rfl : k = x.size := by omega
   replace hS := Lib.hid hS
   go_wp2_with fail
   go_end0
   rw [hS.out]
   exact ⟨rfl, hr, (hcW.mono (fun _ _ h => h.elim)).trans hc (fun _ _ h => h)⟩
def endWord (L C : Int) : Int := bits BinOp.or IntKind.u64 L (IntKind.u64.wrap (IntKind.u64.wrap C * 72057594037927936))
def sipEnd (t : Sip) : Int :=
 let u := siter 4 ⟨t.a, t.b, xorU t.c 255, t.d⟩
 xorU (xorU (xorU u.a u.b) u.c) u.d
theorem sip_alloc (w : World) (t : TypeId) (a b c d : Int) : (w.alloc (.cells #[.int .u64 a, .int .u64 b, .int .u64 c, .int .u64 d] t)).rowIs w.heap.size t 4 (sipF (fun _ => undef) 0 ⟨a, b, c, d⟩) :=
 ⟨_, Blk.new w t _, rfl, fun i hi => by
  have hi' : i = 0 ∨ i = 1 ∨ i = 2 ∨ i = 3 := by omega
  rcases hi' with rfl | rfl | rfl | rfl <;> rfl⟩
set_option maxRecDepth 100000 in
set_option maxHeartbeats 4000000 in
theorem sum_any (g : Nat) (S : Sip) (L : Int) (C : Nat) (w : World) (h : w.rowIs g 318 7 (hasherF S L C)) :
  Calls Tryz.prog 226 #[.pointer (some ⟨g, 0, none⟩)] w fun e w' => e = .returned (.int .u64 (sipEnd (stake S (endWord L C)))) ∧ Below w.heap.size w w' := by
 obtain ⟨a, b, c, d⟩ := S
 have r0 := h.cell (i := 0) (by omega)
 have r1 := h.cell (i := 1) (by omega)
 have r2 := h.cell (i := 2) (by omega)
 have r3 := h.cell (i := 3) (by omega)
 have r4 := h.cell (i := 4) (by omega)
 simp [hasherF, sipF] at r0 r1 r2 r3 r4
 have hlt := h.lt
 have hA := sip_alloc w 316 a b c d
 have hh := h.alloc (.cells #[.int .u64 a, .int .u64 b, .int .u64 c, .int .u64 d] 316)
 have hb : Below w.heap.size w (w.alloc (.cells #[.int .u64 a, .int .u64 b, .int .u64 c, .int .u64 d] 316)) := (Below.refl _ _).alloc (Nat.le_refl _) _
 go_enter Tryz.func226, Tryz.ntmps226
 go_wp2_with fail
 clear r0 r1 r2 r3 r4 h
 generalize (w.alloc (.cells #[.int .u64 a, .int .u64 b, .int .u64 c, .int .u64 d] 316)) = w1 at *
 have r5 := hh.cell (i := 5) (by omega)
 have r6 := hh.cell (i := 6) (by omega)
 simp [hasherF, sipF] at r5 r6
 refine wp_region_still_tail 11 (by kernel_rfl) (by kernel_rfl) ?_
 simp only [List.take_succ_cons, List.take_zero, List.drop_succ_cons, List.drop_zero]
 repeat still_step
 refine wpStill_nil ?_
 change wpList _ _ _ _ _ w1.drew
 have hA1 : w1.drew.rowIs w.heap.size 316 4 (sipF (fun _ => undef) 0 ⟨a, b, c, d⟩) := hA.drew
 have hb1 : Below w.heap.size w w1.drew := ⟨hb.os, hb.tape, hb.output, hb.size, hb.block⟩
 generalize w1.drew = w2 at *
 clear hA hb hh r5 r6
 obtain ⟨m, hm⟩ : ∃ m, bits BinOp.or IntKind.u64 L (IntKind.u64.wrap (IntKind.u64.wrap (C : Int) * 72057594037927936)) = m := ⟨_, rfl⟩
 rw [hm]
 have hm' : endWord L C = m := hm
 clear hm
 have T := take_any w.heap.size 0 316 4 (fun _ => undef) ⟨a, b, c, d⟩ m w2 hA1 (by omega)
 obtain ⟨t, ht⟩ : ∃ t, stake ⟨a, b, c, d⟩ m = t := ⟨_, rfl⟩
 rw [ht] at T
 obtain ⟨ta, tb, tc, td⟩ := t
 replace ht := Lib.hid ht
 replace hm' := Lib.hid hm'
 replace T := Lib.hid T
 clear hA1
 go_wp2_with (go_at_call 268; refine T.out.mono ?_; rintro e w3 ⟨rfl, h3, hc3⟩; have r2 := h3.cell (i := 2) (by omega); have q2 := h3.frozen 2; simp [sipF] at r2)
 have hb3 : Below w.heap.size w w3 := below_chg hb1 hc3 (fun b h e => by omega) hb1.size
 obtain ⟨y, hy⟩ : ∃ y, bits BinOp.xor IntKind.u64 tc 255 = y := ⟨_, rfl⟩
 rw [hy]
 have h4 : (w3.setCell ⟨w.heap.size, 2, none⟩ (.int .u64 y)).rowIs w.heap.size 316 4 (sipF (fun _ => undef) 0 ⟨ta, tb, y, td⟩) := sip_setc h3 y
 have hb4 : Below w.heap.size w (w3.setCell ⟨w.heap.size, 2, none⟩ (.int .u64 y)) := hb3.setCell (Nat.le_refl _) _
 generalize (w3.setCell ⟨w.heap.size, 2, none⟩ (.int .u64 y)) = w4 at *
 obtain ⟨u, hu⟩ : ∃ u, siter 4 ⟨ta, tb, y, td⟩ = u := ⟨_, rfl⟩
 have M := mix_any w.heap.size 0 316 4 (fun _ => undef) ⟨ta, tb, y, td⟩ 4 w4 h4 (by omega) (by omega) (by omega)
 rw [hu] at M
 obtain ⟨ua, ub, uc, ud⟩ := u
 have hE : sipEnd ⟨ta, tb, tc, td⟩ = xorU (xorU (xorU ua ub) uc) ud := by
  show xorU (xorU (xorU (siter 4 ⟨ta, tb, bits BinOp.xor IntKind.u64 tc 255, td⟩).a (siter 4 ⟨ta, tb, bits BinOp.xor IntKind.u64 tc 255, td⟩).b) (siter 4 ⟨ta, tb, bits BinOp.xor IntKind.u64 tc 255, td⟩).c) (siter 4 ⟨ta, tb, bits BinOp.xor IntKind.u64 tc 255, td⟩).d = _
  rw [hy, hu]
 replace hE := Lib.hid hE
 clear hu hy h3 hc3 hb1 hb3 r2 q2 T h4
 go_wp2_with fail
 refine M.mono ?_
 rintro e w5 ⟨rfl, h5, hc5⟩
 have hb5 : Below w.heap.size w w5 := below_chg hb4 hc5 (fun b h e => by omega) hb4.size
 have r0 := h5.cell (i := 0) (by omega)
 have r1 := h5.cell (i := 1) (by omega)
 have r2 := h5.cell (i := 2) (by omega)
 have r3 := h5.cell (i := 3) (by omega)
 simp [sipF] at r0 r1 r2 r3
 clear M hc5 hb4
 go_wp2_with fail
 go_ret
 rw [hm'.out, ht.out, hE.out]
 exact ⟨rfl, hb5⟩
def sipHash (a b : Int) (x : ByteArray) : Int := sipEnd (stake (hrun x (sip0 a b) x.size).1 (endWord (hrun x (sip0 a b) x.size).2 x.size))
theorem hash_any (a b : Int) (x : ByteArray) (w : World) (hx : x.size ≤ 1000000) : Calls Tryz.prog 211 #[.agg #[.int .u64 a, .int .u64 b], .string x] w fun e w' => e = .returned (.int .u64 (sipHash a b x)) ∧ Below w.heap.size w w' := by
 obtain ⟨R, hR⟩ : ∃ R, hrun x (sip0 a b) x.size = R := ⟨_, rfl⟩
 unfold sipHash
 rw [hR]
 obtain ⟨S, L⟩ := R
 replace hR := Lib.hid hR
 go_enter Tryz.func211, Tryz.ntmps211
 go_wp2_with fail
 refine (new_sip a b _).mono ?_
 rintro e w1 ⟨g, rfl, h1, hb1, hg1⟩
 have hz : w.heap.size < g := by simp at hg1; omega
 have hb : Below w.heap.size w w1 := (by repeat (first | exact Below.refl _ _ | assumption | refine below_alloc ?_ _ | refine below_chain (by assumption) ?_ | refine below_call2 (by assumption) ?_ (by first | omega | (simp; done) | (simp; omega) | (simp [World.setCell]; omega)) | refine below_drewN ?_ _ | refine Below.drew ?_ | refine Below.alloc ?_ (by first | omega | (simp; done) | (simp; omega) | (simp [World.setCell]; omega)) _ | refine Below.setCell ?_ (by first | omega | (simp; done) | (simp; omega) | (simp [World.setCell]; omega)) _))
 go_wp2_with fail
 refine (write_any g (sip0 a b) x w1 h1 hx).mono ?_
 rintro e w2 ⟨rfl, h2, hc2⟩
 rw [hR.out] at h2
 have hb2 := below_chg hb hc2 (fun b h e => by omega) hb.size
 go_wp2_with fail
 refine (sum_any g S L x.size w2 h2).mono ?_
 rintro e w3 ⟨rfl, hb3⟩
 have hb4 := below_call hb2 hb2.size hb3
 go_wp2_with fail
 go_ret
 exact ⟨rfl, hb4⟩
def lastW (x : ByteArray) : Int := IntKind.u64.wrap (wordL (x.extract (8 * (x.size / 8)) x.size).data.toList + (x.size : Int) % 256 * 72057594037927936)
def mw (x : ByteArray) (k : Nat) : Int := if k = x.size / 8 then lastW x else wordL (x.extract (8 * k) (8 * k + 8)).data.toList
def bs (x : ByteArray) (S : Sip) : Nat → Sip
 | 0 => S
 | k + 1 => stake (bs x S k) (mw x k)
def wn : List UInt8 → Nat
 | [] => 0
 | c :: l => wn l * 256 + c.toNat
def tailB (x : ByteArray) (k : Nat) : List UInt8 := (x.data.toList.drop (8 * (k / 8))).take (k % 8)
theorem sip_rng (a b : Int) (x : ByteArray) : ∃ h : Nat, sipHash a b x = (h : Int) ∧ h < 18446744073709551616 := by
 have key : ∀ u v : Int, ∃ h : Nat, xorU u v = (h : Int) ∧ h < 18446744073709551616 := by
  intro u v
  have hw : ∀ n : Int, ∃ h : Nat, IntKind.u64.wrap n = (h : Int) ∧ h < 18446744073709551616 := fun n => ⟨(n % 18446744073709551616).toNat, by simp [IntKind.wrap, IntKind.bits, IntKind.signed]; omega, by omega⟩
  exact hw _
 exact key _ _
end Go.Proofs.YteklkljndchjiaaGreat
