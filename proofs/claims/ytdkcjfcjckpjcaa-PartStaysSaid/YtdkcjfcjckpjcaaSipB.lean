/- sip: the program's round. -/
import Derived.Test.YtdkcjfcjckpjcaaSipA
namespace Go.Proofs.Ytdkcjfcjckpjcaa
open Go Go.RowKit Go.Deep

set_option maxRecDepth 100000 in
set_option maxHeartbeats 4000000 in
theorem sipround_any (g o : Nat) (t : TypeId) (n : Nat) (f : Nat → Value) (s : Sip) (w : World) (h0 : w.rowIs g t n (sipF f o s)) (hn : o + 3 < n) :
    Calls Try.prog 153 #[.pointer (some ⟨g, o, none⟩)] w fun e w' => e = .returned (.tuple #[]) ∧ w'.rowIs g t n (sipF f o (sround s)) ∧ Chg (· = g) w w' := by
  obtain ⟨a0, b0, c0, d0⟩ := s
  have hc0 := Chg.refl (· = g) w
  go_enter Try.func153, Try.ntmps153
  have r1 := h0.cell (i := o) (by omega)
  have q1 := h0.frozen (o)
  have r2 := h0.cell (i := o + 1) (by omega)
  simp [sipF] at r1 r2
  go_wp2_with fail
  go_region
  clear r1 q1 r2
  generalize hy1 : IntKind.u64.wrap (a0 + b0) = a1 at *
  replace hy1 := Lib.hid hy1
  have h1 := (sip_seta h0 a1).drew
  have hc1 : Chg (· = g) w ((w.setCell ⟨g, o, none⟩ (.int .u64 a1)).drew) := (hc0.setCell (p := ⟨g, o, none⟩) (fun _ => rfl) _).drew
  generalize (w.setCell ⟨g, o, none⟩ (.int .u64 a1)).drew = w1 at *
  clear h0 hc0
  have r1 := h1.cell (i := o + 1) (by omega)
  have q1 := h1.frozen (o + 1)
  have r2 := h1.cell (i := o) (by omega)
  simp [sipF] at r1 r2
  go_wp2_with fail
  refine wp_region_still_tail 13 (by kernel_rfl) (by kernel_rfl) ?_
  simp only [List.take_succ_cons, List.take_zero, List.drop_succ_cons, List.drop_zero]
  repeat still_step
  still_call ((rot13_any b0 _).mono (fun _ _ h => ⟨h.1, h.2.symm⟩))
  repeat still_step
  refine wpStill_nil ?_
  change wpList _ _ _ _ _ w1.drew
  have h1' : w1.drew.rowIs g t n _ := h1.drew
  have r1' : w1.drew.cell? _ = _ := r1
  have q1' : w1.drew.frozen? _ = _ := q1
  have hc1' : Chg (· = g) w w1.drew := hc1.drew
  generalize w1.drew = v2 at *
  clear h1 r1 q1 hc1 r2
  go_wp2_with fail
  clear r1' q1'
  generalize hy2 : bits BinOp.xor IntKind.u64 (rot13 b0) a1 = b2 at *
  replace hy2 := Lib.hid hy2
  have h2 := (sip_setb h1' b2)
  have hc2 : Chg (· = g) w ((v2.setCell ⟨g, o + 1, none⟩ (.int .u64 b2))) := (hc1'.setCell (p := ⟨g, o + 1, none⟩) (fun _ => rfl) _)
  generalize (v2.setCell ⟨g, o + 1, none⟩ (.int .u64 b2)) = w2 at *
  clear h1' hc1'
  have r1 := h2.cell (i := o) (by omega)
  have q1 := h2.frozen (o)
  simp [sipF] at r1
  go_wp2_with fail
  refine wp_region_still_tail 8 (by kernel_rfl) (by kernel_rfl) ?_
  simp only [List.take_succ_cons, List.take_zero, List.drop_succ_cons, List.drop_zero]
  repeat still_step
  still_call ((rot32_any a1 _).mono (fun _ _ h => ⟨h.1, h.2.symm⟩))
  repeat still_step
  refine wpStill_nil ?_
  change wpList _ _ _ _ _ w2.drew
  have h2' : w2.drew.rowIs g t n _ := h2.drew
  have r1' : w2.drew.cell? _ = _ := r1
  have q1' : w2.drew.frozen? _ = _ := q1
  have hc2' : Chg (· = g) w w2.drew := hc2.drew
  generalize w2.drew = v3 at *
  clear h2 r1 q1 hc2
  go_wp2_with fail
  clear r1' q1'
  generalize hy3 : rot32 a1 = a3 at *
  replace hy3 := Lib.hid hy3
  have h3 := (sip_seta h2' a3)
  have hc3 : Chg (· = g) w ((v3.setCell ⟨g, o, none⟩ (.int .u64 a3))) := (hc2'.setCell (p := ⟨g, o, none⟩) (fun _ => rfl) _)
  generalize (v3.setCell ⟨g, o, none⟩ (.int .u64 a3)) = w3 at *
  clear h2' hc2'
  have r1 := h3.cell (i := o + 2) (by omega)
  have q1 := h3.frozen (o + 2)
  have r2 := h3.cell (i := o + 3) (by omega)
  simp [sipF] at r1 r2
  go_wp2_with fail
  go_region
  clear r1 q1 r2
  generalize hy4 : IntKind.u64.wrap (c0 + d0) = c4 at *
  replace hy4 := Lib.hid hy4
  have h4 := (sip_setc h3 c4).drew
  have hc4 : Chg (· = g) w ((w3.setCell ⟨g, o + 2, none⟩ (.int .u64 c4)).drew) := (hc3.setCell (p := ⟨g, o + 2, none⟩) (fun _ => rfl) _).drew
  generalize (w3.setCell ⟨g, o + 2, none⟩ (.int .u64 c4)).drew = w4 at *
  clear h3 hc3
  have r1 := h4.cell (i := o + 3) (by omega)
  have q1 := h4.frozen (o + 3)
  have r2 := h4.cell (i := o + 2) (by omega)
  simp [sipF] at r1 r2
  go_wp2_with fail
  refine wp_region_still_tail 13 (by kernel_rfl) (by kernel_rfl) ?_
  simp only [List.take_succ_cons, List.take_zero, List.drop_succ_cons, List.drop_zero]
  repeat still_step
  still_call ((rot16_any d0 _).mono (fun _ _ h => ⟨h.1, h.2.symm⟩))
  repeat still_step
  refine wpStill_nil ?_
  change wpList _ _ _ _ _ w4.drew
  have h4' : w4.drew.rowIs g t n _ := h4.drew
  have r1' : w4.drew.cell? _ = _ := r1
  have q1' : w4.drew.frozen? _ = _ := q1
  have hc4' : Chg (· = g) w w4.drew := hc4.drew
  generalize w4.drew = v5 at *
  clear h4 r1 q1 hc4 r2
  go_wp2_with fail
  clear r1' q1'
  generalize hy5 : bits BinOp.xor IntKind.u64 (rot16 d0) c4 = d5 at *
  replace hy5 := Lib.hid hy5
  have h5 := (sip_setd h4' d5)
  have hc5 : Chg (· = g) w ((v5.setCell ⟨g, o + 3, none⟩ (.int .u64 d5))) := (hc4'.setCell (p := ⟨g, o + 3, none⟩) (fun _ => rfl) _)
  generalize (v5.setCell ⟨g, o + 3, none⟩ (.int .u64 d5)) = w5 at *
  clear h4' hc4'
  have r1 := h5.cell (i := o) (by omega)
  have q1 := h5.frozen (o)
  have r2 := h5.cell (i := o + 3) (by omega)
  simp [sipF] at r1 r2
  go_wp2_with fail
  go_region
  clear r1 q1 r2
  generalize hy6 : IntKind.u64.wrap (a3 + d5) = a6 at *
  replace hy6 := Lib.hid hy6
  have h6 := (sip_seta h5 a6).drew
  have hc6 : Chg (· = g) w ((w5.setCell ⟨g, o, none⟩ (.int .u64 a6)).drew) := (hc5.setCell (p := ⟨g, o, none⟩) (fun _ => rfl) _).drew
  generalize (w5.setCell ⟨g, o, none⟩ (.int .u64 a6)).drew = w6 at *
  clear h5 hc5
  have r1 := h6.cell (i := o + 3) (by omega)
  have q1 := h6.frozen (o + 3)
  have r2 := h6.cell (i := o) (by omega)
  simp [sipF] at r1 r2
  go_wp2_with fail
  refine wp_region_still_tail 13 (by kernel_rfl) (by kernel_rfl) ?_
  simp only [List.take_succ_cons, List.take_zero, List.drop_succ_cons, List.drop_zero]
  repeat still_step
  still_call ((rot21_any d5 _).mono (fun _ _ h => ⟨h.1, h.2.symm⟩))
  repeat still_step
  refine wpStill_nil ?_
  change wpList _ _ _ _ _ w6.drew
  have h6' : w6.drew.rowIs g t n _ := h6.drew
  have r1' : w6.drew.cell? _ = _ := r1
  have q1' : w6.drew.frozen? _ = _ := q1
  have hc6' : Chg (· = g) w w6.drew := hc6.drew
  generalize w6.drew = v7 at *
  clear h6 r1 q1 hc6 r2
  go_wp2_with fail
  clear r1' q1'
  generalize hy7 : bits BinOp.xor IntKind.u64 (rot21 d5) a6 = d7 at *
  replace hy7 := Lib.hid hy7
  have h7 := (sip_setd h6' d7)
  have hc7 : Chg (· = g) w ((v7.setCell ⟨g, o + 3, none⟩ (.int .u64 d7))) := (hc6'.setCell (p := ⟨g, o + 3, none⟩) (fun _ => rfl) _)
  generalize (v7.setCell ⟨g, o + 3, none⟩ (.int .u64 d7)) = w7 at *
  clear h6' hc6'
  have r1 := h7.cell (i := o + 2) (by omega)
  have q1 := h7.frozen (o + 2)
  have r2 := h7.cell (i := o + 1) (by omega)
  simp [sipF] at r1 r2
  go_wp2_with fail
  go_region
  clear r1 q1 r2
  generalize hy8 : IntKind.u64.wrap (c4 + b2) = c8 at *
  replace hy8 := Lib.hid hy8
  have h8 := (sip_setc h7 c8).drew
  have hc8 : Chg (· = g) w ((w7.setCell ⟨g, o + 2, none⟩ (.int .u64 c8)).drew) := (hc7.setCell (p := ⟨g, o + 2, none⟩) (fun _ => rfl) _).drew
  generalize (w7.setCell ⟨g, o + 2, none⟩ (.int .u64 c8)).drew = w8 at *
  clear h7 hc7
  have r1 := h8.cell (i := o + 1) (by omega)
  have q1 := h8.frozen (o + 1)
  have r2 := h8.cell (i := o + 2) (by omega)
  simp [sipF] at r1 r2
  go_wp2_with fail
  refine wp_region_still_tail 13 (by kernel_rfl) (by kernel_rfl) ?_
  simp only [List.take_succ_cons, List.take_zero, List.drop_succ_cons, List.drop_zero]
  repeat still_step
  still_call ((rot17_any b2 _).mono (fun _ _ h => ⟨h.1, h.2.symm⟩))
  repeat still_step
  refine wpStill_nil ?_
  change wpList _ _ _ _ _ w8.drew
  have h8' : w8.drew.rowIs g t n _ := h8.drew
  have r1' : w8.drew.cell? _ = _ := r1
  have q1' : w8.drew.frozen? _ = _ := q1
  have hc8' : Chg (· = g) w w8.drew := hc8.drew
  generalize w8.drew = v9 at *
  clear h8 r1 q1 hc8 r2
  go_wp2_with fail
  clear r1' q1'
  generalize hy9 : bits BinOp.xor IntKind.u64 (rot17 b2) c8 = b9 at *
  replace hy9 := Lib.hid hy9
  have h9 := (sip_setb h8' b9)
  have hc9 : Chg (· = g) w ((v9.setCell ⟨g, o + 1, none⟩ (.int .u64 b9))) := (hc8'.setCell (p := ⟨g, o + 1, none⟩) (fun _ => rfl) _)
  generalize (v9.setCell ⟨g, o + 1, none⟩ (.int .u64 b9)) = w9 at *
  clear h8' hc8'
  have r1 := h9.cell (i := o + 2) (by omega)
  have q1 := h9.frozen (o + 2)
  simp [sipF] at r1
  go_wp2_with fail
  refine wp_region_still_tail 8 (by kernel_rfl) (by kernel_rfl) ?_
  simp only [List.take_succ_cons, List.take_zero, List.drop_succ_cons, List.drop_zero]
  repeat still_step
  still_call ((rot32_any c8 _).mono (fun _ _ h => ⟨h.1, h.2.symm⟩))
  repeat still_step
  refine wpStill_nil ?_
  change wpList _ _ _ _ _ w9.drew
  have h9' : w9.drew.rowIs g t n _ := h9.drew
  have r1' : w9.drew.cell? _ = _ := r1
  have q1' : w9.drew.frozen? _ = _ := q1
  have hc9' : Chg (· = g) w w9.drew := hc9.drew
  generalize w9.drew = v10 at *
  clear h9 r1 q1 hc9
  go_wp2_with fail
  clear r1' q1'
  generalize hy10 : rot32 c8 = c10 at *
  replace hy10 := Lib.hid hy10
  have h10 := (sip_setc h9' c10)
  have hc10 : Chg (· = g) w ((v10.setCell ⟨g, o + 2, none⟩ (.int .u64 c10))) := (hc9'.setCell (p := ⟨g, o + 2, none⟩) (fun _ => rfl) _)
  generalize (v10.setCell ⟨g, o + 2, none⟩ (.int .u64 c10)) = w10 at *
  clear h9' hc9'
  go_end0
  obtain rfl := hy10.out
  obtain rfl := hy9.out
  obtain rfl := hy8.out
  obtain rfl := hy7.out
  obtain rfl := hy6.out
  obtain rfl := hy5.out
  obtain rfl := hy4.out
  obtain rfl := hy3.out
  obtain rfl := hy2.out
  obtain rfl := hy1.out
  exact ⟨rfl, h10, hc10⟩
end Go.Proofs.Ytdkcjfcjckpjcaa
