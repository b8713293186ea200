/- script.Parse: what must throws is recovered. script: on, text, may. -/
import Derived.Test.YtodbgjnccngljaaGreatDoorJ21
import Derived.Recover
import Derived.Laws.Pointers
import Derived.Test.YtodbgjnccngljaaGreatDoorJ15
namespace Go.Proofs.YtodbgjnccngljaaGreatDoor
open Go Go.RowKit Go.Deep
def parseV : Option ActL → Value
 | some x => .tuple #[.agg (actCs x), .bool true]
 | none => .tuple #[.agg #[.int .i64 0, .int .i64 0, .int .i64 0, .int .i64 0, .string ⟨#[]⟩, .int .u64 0, .int .u64 0, .bool false, .bool false, .int .u64 0, .int .u64 0, .int .i64 0, .int .i64 0], .bool false]
theorem assert_wrong (xT : TypeId) (W : World) : (Instr.typeAssert (.iface 67 (.agg #[])) xT 67 false).run Tryz.prog W = .ok (.agg #[]) W := by
 have h : Tryz.prog.underlying 67 = some (.struct #[]) := by kernel_rfl
 simp [Instr.typeAssert, run_underlying h, go_sem, Result.andThen]
set_option maxRecDepth 100000 in
set_option maxHeartbeats 4000000 in
theorem parse1_panic (b2 b3 : Nat) (w : World) (h2 : Blk w b2 34 #[.int .i64 0, .int .i64 0, .int .i64 0, .int .i64 0, .string ⟨#[]⟩, .int .u64 0, .int .u64 0, .bool false, .bool false, .int .u64 0, .int .u64 0, .int .i64 0, .int .i64 0]) (h3 : Blk w b3 4 #[.bool false]) (h23 : ¬ b2 = b3) :
  CallsD Tryz.prog 29 #[.pointer (some ⟨b2, 0, none⟩), .pointer (some ⟨b3, 0, none⟩)] (.panicking ({ v := .iface 67 (.agg #[]), recovered := false } :: [])) w fun e u' w' =>
   e = .returned (.tuple #[]) ∧ u' = .panicking ({ v := .iface 67 (.agg #[]), recovered := true } :: []) ∧ Blk w' b2 34 #[.int .i64 0, .int .i64 0, .int .i64 0, .int .i64 0, .string ⟨#[]⟩, .int .u64 0, .int .u64 0, .bool false, .bool false, .int .u64 0, .int .u64 0, .int .i64 0, .int .i64 0] ∧ Blk w' b3 4 #[.bool false] ∧ Chg (fun k => k = b2 ∨ k = b3) w w' := by
 refine callsD_of_wpS Tryz.func29 rfl fun c₀ cs hu => ?_
 apply wpS_seq
 apply wpS_region
 simp [wpOpsS, go_sem, recoverD, hu, Tryz.ntmps29, Exit.thenS]
 refine wpS_of_wp ?_
 have ht : (#[.pointer (some ⟨b2, 0, none⟩), .pointer (some ⟨b3, 0, none⟩)] ++ ((Array.replicate 7 undef).setIfInBounds 1 (Value.iface 67 (.agg #[]))).setIfInBounds 0 (Value.iface 67 (.agg #[])) : Array Value) =
  #[.pointer (some ⟨b2, 0, none⟩), .pointer (some ⟨b3, 0, none⟩), .iface 67 (.agg #[]), .iface 67 (.agg #[]), undef, undef, undef, undef, undef] := rfl
 rw [ht]
 clear ht hu
 have hta := assert_wrong
 have c0 : w.cell? ⟨b2, 0, none⟩ = some (.int .i64 0) := Blk.cell h2 0
 have c1 : w.cell? ⟨b2, 1, none⟩ = some (.int .i64 0) := Blk.cell h2 1
 have c2 : w.cell? ⟨b2, 2, none⟩ = some (.int .i64 0) := Blk.cell h2 2
 have c3 : w.cell? ⟨b2, 3, none⟩ = some (.int .i64 0) := Blk.cell h2 3
 have c4 : w.cell? ⟨b2, 4, none⟩ = some (.string ⟨#[]⟩) := Blk.cell h2 4
 have c5 : w.cell? ⟨b2, 5, none⟩ = some (.int .u64 0) := Blk.cell h2 5
 have c6 : w.cell? ⟨b2, 6, none⟩ = some (.int .u64 0) := Blk.cell h2 6
 have c7 : w.cell? ⟨b2, 7, none⟩ = some (.bool false) := Blk.cell h2 7
 have c8 : w.cell? ⟨b2, 8, none⟩ = some (.bool false) := Blk.cell h2 8
 have c9 : w.cell? ⟨b2, 9, none⟩ = some (.int .u64 0) := Blk.cell h2 9
 have c10 : w.cell? ⟨b2, 10, none⟩ = some (.int .u64 0) := Blk.cell h2 10
 have c11 : w.cell? ⟨b2, 11, none⟩ = some (.int .i64 0) := Blk.cell h2 11
 have c12 : w.cell? ⟨b2, 12, none⟩ = some (.int .i64 0) := Blk.cell h2 12
 have f0 := Blk.frozen h2 0
 have f1 := Blk.frozen h2 1
 have f2 := Blk.frozen h2 2
 have f3 := Blk.frozen h2 3
 have f4 := Blk.frozen h2 4
 have f5 := Blk.frozen h2 5
 have f6 := Blk.frozen h2 6
 have f7 := Blk.frozen h2 7
 have f8 := Blk.frozen h2 8
 have f9 := Blk.frozen h2 9
 have f10 := Blk.frozen h2 10
 have f11 := Blk.frozen h2 11
 have f12 := Blk.frozen h2 12
 have d0 : w.cell? ⟨b3, 0, none⟩ = some (.bool false) := Blk.cell h3 0
 have g0 := Blk.frozen h3 0
 go_wp2_with fail
 have k2 : Blk ((((((((((((((w.setCell ⟨b2, 0, none⟩ (.int .i64 0)).setCell ⟨b2, 1, none⟩ (.int .i64 0)).setCell ⟨b2, 2, none⟩ (.int .i64 0)).setCell ⟨b2, 3, none⟩ (.int .i64 0)).setCell ⟨b2, 4, none⟩ (.string ⟨#[]⟩)).setCell ⟨b2, 5, none⟩ (.int .u64 0)).setCell ⟨b2, 6, none⟩ (.int .u64 0)).setCell ⟨b2, 7, none⟩ (.bool false)).setCell ⟨b2, 8, none⟩ (.bool false)).setCell ⟨b2, 9, none⟩ (.int .u64 0)).setCell ⟨b2, 10, none⟩ (.int .u64 0)).setCell ⟨b2, 11, none⟩ (.int .i64 0)).setCell ⟨b2, 12, none⟩ (.int .i64 0)).setCell ⟨b3, 0, none⟩ (.bool false)) b2 34 #[.int .i64 0, .int .i64 0, .int .i64 0, .int .i64 0, .string ⟨#[]⟩, .int .u64 0, .int .u64 0, .bool false, .bool false, .int .u64 0, .int .u64 0, .int .i64 0, .int .i64 0] := Blk.setOff ((Blk.setAt (Blk.setAt (Blk.setAt (Blk.setAt (Blk.setAt (Blk.setAt (Blk.setAt (Blk.setAt (Blk.setAt (Blk.setAt (Blk.setAt (Blk.setAt (Blk.setAt h2 0 (.int .i64 0)) 1 (.int .i64 0)) 2 (.int .i64 0)) 3 (.int .i64 0)) 4 (.string ⟨#[]⟩)) 5 (.int .u64 0)) 6 (.int .u64 0)) 7 (.bool false)) 8 (.bool false)) 9 (.int .u64 0)) 10 (.int .u64 0)) 11 (.int .i64 0)) 12 (.int .i64 0))) (fun h => h23 h.symm) 0 (.bool false)
 have k3 : Blk ((((((((((((((w.setCell ⟨b2, 0, none⟩ (.int .i64 0)).setCell ⟨b2, 1, none⟩ (.int .i64 0)).setCell ⟨b2, 2, none⟩ (.int .i64 0)).setCell ⟨b2, 3, none⟩ (.int .i64 0)).setCell ⟨b2, 4, none⟩ (.string ⟨#[]⟩)).setCell ⟨b2, 5, none⟩ (.int .u64 0)).setCell ⟨b2, 6, none⟩ (.int .u64 0)).setCell ⟨b2, 7, none⟩ (.bool false)).setCell ⟨b2, 8, none⟩ (.bool false)).setCell ⟨b2, 9, none⟩ (.int .u64 0)).setCell ⟨b2, 10, none⟩ (.int .u64 0)).setCell ⟨b2, 11, none⟩ (.int .i64 0)).setCell ⟨b2, 12, none⟩ (.int .i64 0)).setCell ⟨b3, 0, none⟩ (.bool false)) b3 4 #[.bool false] := Blk.setAt ((Blk.setOff (Blk.setOff (Blk.setOff (Blk.setOff (Blk.setOff (Blk.setOff (Blk.setOff (Blk.setOff (Blk.setOff (Blk.setOff (Blk.setOff (Blk.setOff (Blk.setOff h3 h23 0 (.int .i64 0)) h23 1 (.int .i64 0)) h23 2 (.int .i64 0)) h23 3 (.int .i64 0)) h23 4 (.string ⟨#[]⟩)) h23 5 (.int .u64 0)) h23 6 (.int .u64 0)) h23 7 (.bool false)) h23 8 (.bool false)) h23 9 (.int .u64 0)) h23 10 (.int .u64 0)) h23 11 (.int .i64 0)) h23 12 (.int .i64 0))) 0 (.bool false)
 have hk : Chg (fun k => k = b2 ∨ k = b3) w ((((((((((((((w.setCell ⟨b2, 0, none⟩ (.int .i64 0)).setCell ⟨b2, 1, none⟩ (.int .i64 0)).setCell ⟨b2, 2, none⟩ (.int .i64 0)).setCell ⟨b2, 3, none⟩ (.int .i64 0)).setCell ⟨b2, 4, none⟩ (.string ⟨#[]⟩)).setCell ⟨b2, 5, none⟩ (.int .u64 0)).setCell ⟨b2, 6, none⟩ (.int .u64 0)).setCell ⟨b2, 7, none⟩ (.bool false)).setCell ⟨b2, 8, none⟩ (.bool false)).setCell ⟨b2, 9, none⟩ (.int .u64 0)).setCell ⟨b2, 10, none⟩ (.int .u64 0)).setCell ⟨b2, 11, none⟩ (.int .i64 0)).setCell ⟨b2, 12, none⟩ (.int .i64 0)).setCell ⟨b3, 0, none⟩ (.bool false)) := (((((((((((((((Chg.refl _ _).setCell (fun _ => Or.inl rfl) _).setCell (fun _ => Or.inl rfl) _).setCell (fun _ => Or.inl rfl) _).setCell (fun _ => Or.inl rfl) _).setCell (fun _ => Or.inl rfl) _).setCell (fun _ => Or.inl rfl) _).setCell (fun _ => Or.inl rfl) _).setCell (fun _ => Or.inl rfl) _).setCell (fun _ => Or.inl rfl) _).setCell (fun _ => Or.inl rfl) _).setCell (fun _ => Or.inl rfl) _).setCell (fun _ => Or.inl rfl) _).setCell (fun _ => Or.inl rfl) _).setCell (fun _ => Or.inr rfl) _)
 exact ⟨rfl, _, rfl, _, by simp [results, Tryz.results29], rfl, rfl, k2, k3, hk⟩
set_option maxRecDepth 100000 in
theorem parse1_idle (b2 b3 : Nat) (w : World) :
  CallsD Tryz.prog 29 #[.pointer (some ⟨b2, 0, none⟩), .pointer (some ⟨b3, 0, none⟩)] .returning w fun e u' w' => e = .returned (.tuple #[]) ∧ u' = .returning ∧ w' = w := by
 refine callsD_of_wpS Tryz.func29 rfl fun c₀ cs hu => ?_
 apply wpS_seq
 apply wpS_region
 simp [wpOpsS, go_sem, recoverD, hu, Tryz.ntmps29, Exit.thenS]
 refine wpS_of_wp ?_
 have ht : (#[.pointer (some ⟨b2, 0, none⟩), .pointer (some ⟨b3, 0, none⟩)] ++ ((Array.replicate 7 undef).setIfInBounds 1 Value.nilIface).setIfInBounds 0 Value.nilIface : Array Value) =
  #[.pointer (some ⟨b2, 0, none⟩), .pointer (some ⟨b3, 0, none⟩), .nilIface, .nilIface, undef, undef, undef, undef, undef] := rfl
 rw [ht]
 clear ht
 go_wp2_with fail
 cases c₀
 simp_all [bodyPostS, results, Tryz.results29]
theorem act_stored {w : World} {b2 b3 : Nat} {t t' : TypeId} {z0 z1 z2 z3 z4 z5 z6 z7 z8 z9 z10 z11 z12 y : Value} (h2 : Blk w b2 t #[z0, z1, z2, z3, z4, z5, z6, z7, z8, z9, z10, z11, z12]) (h3 : Blk w b3 t' #[y]) (h23 : ¬ b2 = b3) (a0 a1 a2 a3 a4 a5 a6 a7 a8 a9 a10 a11 a12 u : Value) :
  Blk ((((((((((((((w.setCell ⟨b2, 0, none⟩ a0).setCell ⟨b2, 1, none⟩ a1).setCell ⟨b2, 2, none⟩ a2).setCell ⟨b2, 3, none⟩ a3).setCell ⟨b2, 4, none⟩ a4).setCell ⟨b2, 5, none⟩ a5).setCell ⟨b2, 6, none⟩ a6).setCell ⟨b2, 7, none⟩ a7).setCell ⟨b2, 8, none⟩ a8).setCell ⟨b2, 9, none⟩ a9).setCell ⟨b2, 10, none⟩ a10).setCell ⟨b2, 11, none⟩ a11).setCell ⟨b2, 12, none⟩ a12).setCell ⟨b3, 0, none⟩ u) b2 t #[a0, a1, a2, a3, a4, a5, a6, a7, a8, a9, a10, a11, a12] ∧ Blk ((((((((((((((w.setCell ⟨b2, 0, none⟩ a0).setCell ⟨b2, 1, none⟩ a1).setCell ⟨b2, 2, none⟩ a2).setCell ⟨b2, 3, none⟩ a3).setCell ⟨b2, 4, none⟩ a4).setCell ⟨b2, 5, none⟩ a5).setCell ⟨b2, 6, none⟩ a6).setCell ⟨b2, 7, none⟩ a7).setCell ⟨b2, 8, none⟩ a8).setCell ⟨b2, 9, none⟩ a9).setCell ⟨b2, 10, none⟩ a10).setCell ⟨b2, 11, none⟩ a11).setCell ⟨b2, 12, none⟩ a12).setCell ⟨b3, 0, none⟩ u) b3 t' #[u] ∧ Chg (fun k => k = b2 ∨ k = b3) w ((((((((((((((w.setCell ⟨b2, 0, none⟩ a0).setCell ⟨b2, 1, none⟩ a1).setCell ⟨b2, 2, none⟩ a2).setCell ⟨b2, 3, none⟩ a3).setCell ⟨b2, 4, none⟩ a4).setCell ⟨b2, 5, none⟩ a5).setCell ⟨b2, 6, none⟩ a6).setCell ⟨b2, 7, none⟩ a7).setCell ⟨b2, 8, none⟩ a8).setCell ⟨b2, 9, none⟩ a9).setCell ⟨b2, 10, none⟩ a10).setCell ⟨b2, 11, none⟩ a11).setCell ⟨b2, 12, none⟩ a12).setCell ⟨b3, 0, none⟩ u) := by
 have p0 : Blk (w.setCell ⟨b2, 0, none⟩ a0) b2 t #[a0, z1, z2, z3, z4, z5, z6, z7, z8, z9, z10, z11, z12] := Blk.setAt h2 0 a0
 have o0 : Blk (w.setCell ⟨b2, 0, none⟩ a0) b3 t' #[y] := Blk.setOff h3 h23 0 a0
 have m0 : Chg (fun k => k = b2 ∨ k = b3) w (w.setCell ⟨b2, 0, none⟩ a0) := (Chg.refl _ _).setCell (fun _ => Or.inl rfl) _
 have p1 : Blk ((w.setCell ⟨b2, 0, none⟩ a0).setCell ⟨b2, 1, none⟩ a1) b2 t #[a0, a1, z2, z3, z4, z5, z6, z7, z8, z9, z10, z11, z12] := Blk.setAt p0 1 a1
 have o1 : Blk ((w.setCell ⟨b2, 0, none⟩ a0).setCell ⟨b2, 1, none⟩ a1) b3 t' #[y] := Blk.setOff o0 h23 1 a1
 have m1 : Chg (fun k => k = b2 ∨ k = b3) w ((w.setCell ⟨b2, 0, none⟩ a0).setCell ⟨b2, 1, none⟩ a1) := m0.setCell (fun _ => Or.inl rfl) _
 have p2 : Blk (((w.setCell ⟨b2, 0, none⟩ a0).setCell ⟨b2, 1, none⟩ a1).setCell ⟨b2, 2, none⟩ a2) b2 t #[a0, a1, a2, z3, z4, z5, z6, z7, z8, z9, z10, z11, z12] := Blk.setAt p1 2 a2
 have o2 : Blk (((w.setCell ⟨b2, 0, none⟩ a0).setCell ⟨b2, 1, none⟩ a1).setCell ⟨b2, 2, none⟩ a2) b3 t' #[y] := Blk.setOff o1 h23 2 a2
 have m2 : Chg (fun k => k = b2 ∨ k = b3) w (((w.setCell ⟨b2, 0, none⟩ a0).setCell ⟨b2, 1, none⟩ a1).setCell ⟨b2, 2, none⟩ a2) := m1.setCell (fun _ => Or.inl rfl) _
 have p3 : Blk ((((w.setCell ⟨b2, 0, none⟩ a0).setCell ⟨b2, 1, none⟩ a1).setCell ⟨b2, 2, none⟩ a2).setCell ⟨b2, 3, none⟩ a3) b2 t #[a0, a1, a2, a3, z4, z5, z6, z7, z8, z9, z10, z11, z12] := Blk.setAt p2 3 a3
 have o3 : Blk ((((w.setCell ⟨b2, 0, none⟩ a0).setCell ⟨b2, 1, none⟩ a1).setCell ⟨b2, 2, none⟩ a2).setCell ⟨b2, 3, none⟩ a3) b3 t' #[y] := Blk.setOff o2 h23 3 a3
 have m3 : Chg (fun k => k = b2 ∨ k = b3) w ((((w.setCell ⟨b2, 0, none⟩ a0).setCell ⟨b2, 1, none⟩ a1).setCell ⟨b2, 2, none⟩ a2).setCell ⟨b2, 3, none⟩ a3) := m2.setCell (fun _ => Or.inl rfl) _
 have p4 : Blk (((((w.setCell ⟨b2, 0, none⟩ a0).setCell ⟨b2, 1, none⟩ a1).setCell ⟨b2, 2, none⟩ a2).setCell ⟨b2, 3, none⟩ a3).setCell ⟨b2, 4, none⟩ a4) b2 t #[a0, a1, a2, a3, a4, z5, z6, z7, z8, z9, z10, z11, z12] := Blk.setAt p3 4 a4
 have o4 : Blk (((((w.setCell ⟨b2, 0, none⟩ a0).setCell ⟨b2, 1, none⟩ a1).setCell ⟨b2, 2, none⟩ a2).setCell ⟨b2, 3, none⟩ a3).setCell ⟨b2, 4, none⟩ a4) b3 t' #[y] := Blk.setOff o3 h23 4 a4
 have m4 : Chg (fun k => k = b2 ∨ k = b3) w (((((w.setCell ⟨b2, 0, none⟩ a0).setCell ⟨b2, 1, none⟩ a1).setCell ⟨b2, 2, none⟩ a2).setCell ⟨b2, 3, none⟩ a3).setCell ⟨b2, 4, none⟩ a4) := m3.setCell (fun _ => Or.inl rfl) _
 have p5 : Blk ((((((w.setCell ⟨b2, 0, none⟩ a0).setCell ⟨b2, 1, none⟩ a1).setCell ⟨b2, 2, none⟩ a2).setCell ⟨b2, 3, none⟩ a3).setCell ⟨b2, 4, none⟩ a4).setCell ⟨b2, 5, none⟩ a5) b2 t #[a0, a1, a2, a3, a4, a5, z6, z7, z8, z9, z10, z11, z12] := Blk.setAt p4 5 a5
 have o5 : Blk ((((((w.setCell ⟨b2, 0, none⟩ a0).setCell ⟨b2, 1, none⟩ a1).setCell ⟨b2, 2, none⟩ a2).setCell ⟨b2, 3, none⟩ a3).setCell ⟨b2, 4, none⟩ a4).setCell ⟨b2, 5, none⟩ a5) b3 t' #[y] := Blk.setOff o4 h23 5 a5
 have m5 : Chg (fun k => k = b2 ∨ k = b3) w ((((((w.setCell ⟨b2, 0, none⟩ a0).setCell ⟨b2, 1, none⟩ a1).setCell ⟨b2, 2, none⟩ a2).setCell ⟨b2, 3, none⟩ a3).setCell ⟨b2, 4, none⟩ a4).setCell ⟨b2, 5, none⟩ a5) := m4.setCell (fun _ => Or.inl rfl) _
 have p6 : Blk (((((((w.setCell ⟨b2, 0, none⟩ a0).setCell ⟨b2, 1, none⟩ a1).setCell ⟨b2, 2, none⟩ a2).setCell ⟨b2, 3, none⟩ a3).setCell ⟨b2, 4, none⟩ a4).setCell ⟨b2, 5, none⟩ a5).setCell ⟨b2, 6, none⟩ a6) b2 t #[a0, a1, a2, a3, a4, a5, a6, z7, z8, z9, z10, z11, z12] := Blk.setAt p5 6 a6
 have o6 : Blk (((((((w.setCell ⟨b2, 0, none⟩ a0).setCell ⟨b2, 1, none⟩ a1).setCell ⟨b2, 2, none⟩ a2).setCell ⟨b2, 3, none⟩ a3).setCell ⟨b2, 4, none⟩ a4).setCell ⟨b2, 5, none⟩ a5).setCell ⟨b2, 6, none⟩ a6) b3 t' #[y] := Blk.setOff o5 h23 6 a6
 have m6 : Chg (fun k => k = b2 ∨ k = b3) w (((((((w.setCell ⟨b2, 0, none⟩ a0).setCell ⟨b2, 1, none⟩ a1).setCell ⟨b2, 2, none⟩ a2).setCell ⟨b2, 3, none⟩ a3).setCell ⟨b2, 4, none⟩ a4).setCell ⟨b2, 5, none⟩ a5).setCell ⟨b2, 6, none⟩ a6) := m5.setCell (fun _ => Or.inl rfl) _
 have p7 : Blk ((((((((w.setCell ⟨b2, 0, none⟩ a0).setCell ⟨b2, 1, none⟩ a1).setCell ⟨b2, 2, none⟩ a2).setCell ⟨b2, 3, none⟩ a3).setCell ⟨b2, 4, none⟩ a4).setCell ⟨b2, 5, none⟩ a5).setCell ⟨b2, 6, none⟩ a6).setCell ⟨b2, 7, none⟩ a7) b2 t #[a0, a1, a2, a3, a4, a5, a6, a7, z8, z9, z10, z11, z12] := Blk.setAt p6 7 a7
 have o7 : Blk ((((((((w.setCell ⟨b2, 0, none⟩ a0).setCell ⟨b2, 1, none⟩ a1).setCell ⟨b2, 2, none⟩ a2).setCell ⟨b2, 3, none⟩ a3).setCell ⟨b2, 4, none⟩ a4).setCell ⟨b2, 5, none⟩ a5).setCell ⟨b2, 6, none⟩ a6).setCell ⟨b2, 7, none⟩ a7) b3 t' #[y] := Blk.setOff o6 h23 7 a7
 have m7 : Chg (fun k => k = b2 ∨ k = b3) w ((((((((w.setCell ⟨b2, 0, none⟩ a0).setCell ⟨b2, 1, none⟩ a1).setCell ⟨b2, 2, none⟩ a2).setCell ⟨b2, 3, none⟩ a3).setCell ⟨b2, 4, none⟩ a4).setCell ⟨b2, 5, none⟩ a5).setCell ⟨b2, 6, none⟩ a6).setCell ⟨b2, 7, none⟩ a7) := m6.setCell (fun _ => Or.inl rfl) _
 have p8 : Blk (((((((((w.setCell ⟨b2, 0, none⟩ a0).setCell ⟨b2, 1, none⟩ a1).setCell ⟨b2, 2, none⟩ a2).setCell ⟨b2, 3, none⟩ a3).setCell ⟨b2, 4, none⟩ a4).setCell ⟨b2, 5, none⟩ a5).setCell ⟨b2, 6, none⟩ a6).setCell ⟨b2, 7, none⟩ a7).setCell ⟨b2, 8, none⟩ a8) b2 t #[a0, a1, a2, a3, a4, a5, a6, a7, a8, z9, z10, z11, z12] := Blk.setAt p7 8 a8
 have o8 : Blk (((((((((w.setCell ⟨b2, 0, none⟩ a0).setCell ⟨b2, 1, none⟩ a1).setCell ⟨b2, 2, none⟩ a2).setCell ⟨b2, 3, none⟩ a3).setCell ⟨b2, 4, none⟩ a4).setCell ⟨b2, 5, none⟩ a5).setCell ⟨b2, 6, none⟩ a6).setCell ⟨b2, 7, none⟩ a7).setCell ⟨b2, 8, none⟩ a8) b3 t' #[y] := Blk.setOff o7 h23 8 a8
 have m8 : Chg (fun k => k = b2 ∨ k = b3) w (((((((((w.setCell ⟨b2, 0, none⟩ a0).setCell ⟨b2, 1, none⟩ a1).setCell ⟨b2, 2, none⟩ a2).setCell ⟨b2, 3, none⟩ a3).setCell ⟨b2, 4, none⟩ a4).setCell ⟨b2, 5, none⟩ a5).setCell ⟨b2, 6, none⟩ a6).setCell ⟨b2, 7, none⟩ a7).setCell ⟨b2, 8, none⟩ a8) := m7.setCell (fun _ => Or.inl rfl) _
 have p9 : Blk ((((((((((w.setCell ⟨b2, 0, none⟩ a0).setCell ⟨b2, 1, none⟩ a1).setCell ⟨b2, 2, none⟩ a2).setCell ⟨b2, 3, none⟩ a3).setCell ⟨b2, 4, none⟩ a4).setCell ⟨b2, 5, none⟩ a5).setCell ⟨b2, 6, none⟩ a6).setCell ⟨b2, 7, none⟩ a7).setCell ⟨b2, 8, none⟩ a8).setCell ⟨b2, 9, none⟩ a9) b2 t #[a0, a1, a2, a3, a4, a5, a6, a7, a8, a9, z10, z11, z12] := Blk.setAt p8 9 a9
 have o9 : Blk ((((((((((w.setCell ⟨b2, 0, none⟩ a0).setCell ⟨b2, 1, none⟩ a1).setCell ⟨b2, 2, none⟩ a2).setCell ⟨b2, 3, none⟩ a3).setCell ⟨b2, 4, none⟩ a4).setCell ⟨b2, 5, none⟩ a5).setCell ⟨b2, 6, none⟩ a6).setCell ⟨b2, 7, none⟩ a7).setCell ⟨b2, 8, none⟩ a8).setCell ⟨b2, 9, none⟩ a9) b3 t' #[y] := Blk.setOff o8 h23 9 a9
 have m9 : Chg (fun k => k = b2 ∨ k = b3) w ((((((((((w.setCell ⟨b2, 0, none⟩ a0).setCell ⟨b2, 1, none⟩ a1).setCell ⟨b2, 2, none⟩ a2).setCell ⟨b2, 3, none⟩ a3).setCell ⟨b2, 4, none⟩ a4).setCell ⟨b2, 5, none⟩ a5).setCell ⟨b2, 6, none⟩ a6).setCell ⟨b2, 7, none⟩ a7).setCell ⟨b2, 8, none⟩ a8).setCell ⟨b2, 9, none⟩ a9) := m8.setCell (fun _ => Or.inl rfl) _
 have p10 : Blk (((((((((((w.setCell ⟨b2, 0, none⟩ a0).setCell ⟨b2, 1, none⟩ a1).setCell ⟨b2, 2, none⟩ a2).setCell ⟨b2, 3, none⟩ a3).setCell ⟨b2, 4, none⟩ a4).setCell ⟨b2, 5, none⟩ a5).setCell ⟨b2, 6, none⟩ a6).setCell ⟨b2, 7, none⟩ a7).setCell ⟨b2, 8, none⟩ a8).setCell ⟨b2, 9, none⟩ a9).setCell ⟨b2, 10, none⟩ a10) b2 t #[a0, a1, a2, a3, a4, a5, a6, a7, a8, a9, a10, z11, z12] := Blk.setAt p9 10 a10
 have o10 : Blk (((((((((((w.setCell ⟨b2, 0, none⟩ a0).setCell ⟨b2, 1, none⟩ a1).setCell ⟨b2, 2, none⟩ a2).setCell ⟨b2, 3, none⟩ a3).setCell ⟨b2, 4, none⟩ a4).setCell ⟨b2, 5, none⟩ a5).setCell ⟨b2, 6, none⟩ a6).setCell ⟨b2, 7, none⟩ a7).setCell ⟨b2, 8, none⟩ a8).setCell ⟨b2, 9, none⟩ a9).setCell ⟨b2, 10, none⟩ a10) b3 t' #[y] := Blk.setOff o9 h23 10 a10
 have m10 : Chg (fun k => k = b2 ∨ k = b3) w (((((((((((w.setCell ⟨b2, 0, none⟩ a0).setCell ⟨b2, 1, none⟩ a1).setCell ⟨b2, 2, none⟩ a2).setCell ⟨b2, 3, none⟩ a3).setCell ⟨b2, 4, none⟩ a4).setCell ⟨b2, 5, none⟩ a5).setCell ⟨b2, 6, none⟩ a6).setCell ⟨b2, 7, none⟩ a7).setCell ⟨b2, 8, none⟩ a8).setCell ⟨b2, 9, none⟩ a9).setCell ⟨b2, 10, none⟩ a10) := m9.setCell (fun _ => Or.inl rfl) _
 have p11 : Blk ((((((((((((w.setCell ⟨b2, 0, none⟩ a0).setCell ⟨b2, 1, none⟩ a1).setCell ⟨b2, 2, none⟩ a2).setCell ⟨b2, 3, none⟩ a3).setCell ⟨b2, 4, none⟩ a4).setCell ⟨b2, 5, none⟩ a5).setCell ⟨b2, 6, none⟩ a6).setCell ⟨b2, 7, none⟩ a7).setCell ⟨b2, 8, none⟩ a8).setCell ⟨b2, 9, none⟩ a9).setCell ⟨b2, 10, none⟩ a10).setCell ⟨b2, 11, none⟩ a11) b2 t #[a0, a1, a2, a3, a4, a5, a6, a7, a8, a9, a10, a11, z12] := Blk.setAt p10 11 a11
 have o11 : Blk ((((((((((((w.setCell ⟨b2, 0, none⟩ a0).setCell ⟨b2, 1, none⟩ a1).setCell ⟨b2, 2, none⟩ a2).setCell ⟨b2, 3, none⟩ a3).setCell ⟨b2, 4, none⟩ a4).setCell ⟨b2, 5, none⟩ a5).setCell ⟨b2, 6, none⟩ a6).setCell ⟨b2, 7, none⟩ a7).setCell ⟨b2, 8, none⟩ a8).setCell ⟨b2, 9, none⟩ a9).setCell ⟨b2, 10, none⟩ a10).setCell ⟨b2, 11, none⟩ a11) b3 t' #[y] := Blk.setOff o10 h23 11 a11
 have m11 : Chg (fun k => k = b2 ∨ k = b3) w ((((((((((((w.setCell ⟨b2, 0, none⟩ a0).setCell ⟨b2, 1, none⟩ a1).setCell ⟨b2, 2, none⟩ a2).setCell ⟨b2, 3, none⟩ a3).setCell ⟨b2, 4, none⟩ a4).setCell ⟨b2, 5, none⟩ a5).setCell ⟨b2, 6, none⟩ a6).setCell ⟨b2, 7, none⟩ a7).setCell ⟨b2, 8, none⟩ a8).setCell ⟨b2, 9, none⟩ a9).setCell ⟨b2, 10, none⟩ a10).setCell ⟨b2, 11, none⟩ a11) := m10.setCell (fun _ => Or.inl rfl) _
 have p12 : Blk (((((((((((((w.setCell ⟨b2, 0, none⟩ a0).setCell ⟨b2, 1, none⟩ a1).setCell ⟨b2, 2, none⟩ a2).setCell ⟨b2, 3, none⟩ a3).setCell ⟨b2, 4, none⟩ a4).setCell ⟨b2, 5, none⟩ a5).setCell ⟨b2, 6, none⟩ a6).setCell ⟨b2, 7, none⟩ a7).setCell ⟨b2, 8, none⟩ a8).setCell ⟨b2, 9, none⟩ a9).setCell ⟨b2, 10, none⟩ a10).setCell ⟨b2, 11, none⟩ a11).setCell ⟨b2, 12, none⟩ a12) b2 t #[a0, a1, a2, a3, a4, a5, a6, a7, a8, a9, a10, a11, a12] := Blk.setAt p11 12 a12
 have o12 : Blk (((((((((((((w.setCell ⟨b2, 0, none⟩ a0).setCell ⟨b2, 1, none⟩ a1).setCell ⟨b2, 2, none⟩ a2).setCell ⟨b2, 3, none⟩ a3).setCell ⟨b2, 4, none⟩ a4).setCell ⟨b2, 5, none⟩ a5).setCell ⟨b2, 6, none⟩ a6).setCell ⟨b2, 7, none⟩ a7).setCell ⟨b2, 8, none⟩ a8).setCell ⟨b2, 9, none⟩ a9).setCell ⟨b2, 10, none⟩ a10).setCell ⟨b2, 11, none⟩ a11).setCell ⟨b2, 12, none⟩ a12) b3 t' #[y] := Blk.setOff o11 h23 12 a12
 have m12 : Chg (fun k => k = b2 ∨ k = b3) w (((((((((((((w.setCell ⟨b2, 0, none⟩ a0).setCell ⟨b2, 1, none⟩ a1).setCell ⟨b2, 2, none⟩ a2).setCell ⟨b2, 3, none⟩ a3).setCell ⟨b2, 4, none⟩ a4).setCell ⟨b2, 5, none⟩ a5).setCell ⟨b2, 6, none⟩ a6).setCell ⟨b2, 7, none⟩ a7).setCell ⟨b2, 8, none⟩ a8).setCell ⟨b2, 9, none⟩ a9).setCell ⟨b2, 10, none⟩ a10).setCell ⟨b2, 11, none⟩ a11).setCell ⟨b2, 12, none⟩ a12) := m11.setCell (fun _ => Or.inl rfl) _
 exact ⟨Blk.setOff p12 (fun h => h23 h.symm) 0 u, Blk.setAt o12 0 u, m12.setCell (fun _ => Or.inr rfl) _⟩
set_option maxRecDepth 100000 in
set_option maxHeartbeats 4000000 in
theorem scr_parse (l : List UInt8) (w : World) (hw : Std w) (hL : l.length ≤ 10000) :
  Calls Tryz.prog 9 #[.string ⟨l.toArray⟩] w fun e w' => e = .returned (parseV (parseP l)) ∧ Below w.heap.size w w' := by
 have hmf : ∀ (fn : Fn) (first cap : Array Value) (w : World), (Instr.makeFunc fn first cap).run Tryz.prog w = .ok (.func fn first cap) w := fun _ _ _ _ => rfl
 obtain ⟨w1, hw1⟩ : ∃ w1, w1 = (w.alloc (.cells #[.int .i64 0, .int .i64 0, .int .i64 0, .int .i64 0, .string ⟨#[]⟩, .int .u64 0, .int .u64 0, .bool false, .bool false, .int .u64 0, .int .u64 0, .int .i64 0, .int .i64 0] 34)).alloc (.cells #[.bool false] 4) := ⟨_, rfl⟩
 have hb1 : Below w.heap.size w w1 := hw1 ▸ below_alloc (below_alloc (Below.refl _ _) _) _
 have h2 : Blk w1 w.heap.size 34 #[.int .i64 0, .int .i64 0, .int .i64 0, .int .i64 0, .string ⟨#[]⟩, .int .u64 0, .int .u64 0, .bool false, .bool false, .int .u64 0, .int .u64 0, .int .i64 0, .int .i64 0] := by rw [hw1]; exact (Blk.new w 34 #[.int .i64 0, .int .i64 0, .int .i64 0, .int .i64 0, .string ⟨#[]⟩, .int .u64 0, .int .u64 0, .bool false, .bool false, .int .u64 0, .int .u64 0, .int .i64 0, .int .i64 0]).alloc _
 have h3 : Blk w1 (w.heap.size + 1) 4 #[.bool false] := by
  rw [hw1]
  have := Blk.new (w.alloc (.cells #[.int .i64 0, .int .i64 0, .int .i64 0, .int .i64 0, .string ⟨#[]⟩, .int .u64 0, .int .u64 0, .bool false, .bool false, .int .u64 0, .int .u64 0, .int .i64 0, .int .i64 0] 34)) 4 #[.bool false]
  rw [show (w.alloc (.cells #[.int .i64 0, .int .i64 0, .int .i64 0, .int .i64 0, .string ⟨#[]⟩, .int .u64 0, .int .u64 0, .bool false, .bool false, .int .u64 0, .int .u64 0, .int .i64 0, .int .i64 0] 34)).heap.size = w.heap.size + 1 by simp] at this
  exact this
 have hA := scr_act l w1 (hw.below hb1) hL
 have h23 : ¬ w.heap.size = w.heap.size + 1 := by omega
 cases hp : parseP l with
 | none =>
  rw [hp] at hA
  replace hA := Lib.hid (show Calls Tryz.prog 30 #[.string ⟨l.toArray⟩] w1 fun e w' => e = thrown ∧ Below w1.heap.size w1 w' from hA)
  clear hp
  replace h23 := Lib.hid h23
  go_enter_defers Tryz.func9, Tryz.ntmps9
  go_upto_region 2 with fail
  rw [← hw1]
  clear hw1
  go_wp2_with (go_at_call 30; (refine hA.out.mono ?_); rintro e w2 ⟨rfl, hb2⟩)
  refine leaves_cons (f := 29) (args := #[.pointer (some ⟨w.heap.size, 0, none⟩), .pointer (some ⟨w.heap.size + 1, 0, none⟩)]) (by simp) (by simp [go_sem]) ?_
  refine (parse1_panic w.heap.size (w.heap.size + 1) w2 (h2.call hb2) (h3.call hb2) h23.out).mono ?_
  rintro e u' w3 ⟨rfl, rfl, k2, k3, hk⟩
  have c0 : w3.cell? ⟨w.heap.size, 0, none⟩ = some (.int .i64 0) := Blk.cell k2 0
  have c1 : w3.cell? ⟨w.heap.size, 1, none⟩ = some (.int .i64 0) := Blk.cell k2 1
  have c2 : w3.cell? ⟨w.heap.size, 2, none⟩ = some (.int .i64 0) := Blk.cell k2 2
  have c3 : w3.cell? ⟨w.heap.size, 3, none⟩ = some (.int .i64 0) := Blk.cell k2 3
  have c4 : w3.cell? ⟨w.heap.size, 4, none⟩ = some (.string ⟨#[]⟩) := Blk.cell k2 4
  have c5 : w3.cell? ⟨w.heap.size, 5, none⟩ = some (.int .u64 0) := Blk.cell k2 5
  have c6 : w3.cell? ⟨w.heap.size, 6, none⟩ = some (.int .u64 0) := Blk.cell k2 6
  have c7 : w3.cell? ⟨w.heap.size, 7, none⟩ = some (.bool false) := Blk.cell k2 7
  have c8 : w3.cell? ⟨w.heap.size, 8, none⟩ = some (.bool false) := Blk.cell k2 8
  have c9 : w3.cell? ⟨w.heap.size, 9, none⟩ = some (.int .u64 0) := Blk.cell k2 9
  have c10 : w3.cell? ⟨w.heap.size, 10, none⟩ = some (.int .u64 0) := Blk.cell k2 10
  have c11 : w3.cell? ⟨w.heap.size, 11, none⟩ = some (.int .i64 0) := Blk.cell k2 11
  have c12 : w3.cell? ⟨w.heap.size, 12, none⟩ = some (.int .i64 0) := Blk.cell k2 12
  have d0 : w3.cell? ⟨w.heap.size + 1, 0, none⟩ = some (.bool false) := Blk.cell k3 0
  have hbF : Below w.heap.size w w3 := (below_chain hb2 hb1).trans (hk.below (fun b hb h => by rcases h with h | h <;> omega) (below_chain hb2 hb1).size)
  simp [Leaves, settle, results, Tryz.results9, go_sem, *]
  exact rfl
 | some x =>
  rw [hp] at hA
  replace hA := Lib.hid (show Calls Tryz.prog 30 #[.string ⟨l.toArray⟩] w1 fun e w' => e = .returned (.agg #[.int .i64 x.k, .int .i64 x.at_, .int .i64 x.id, .int .i64 x.n, .string ⟨x.s.toArray⟩, .int .u64 ((x.a : Nat) : Int), .int .u64 ((x.b : Nat) : Int), .bool x.on, .bool x.v6, .int .u64 ((x.hi : Nat) : Int), .int .u64 ((x.lo : Nat) : Int), .int .i64 x.pk, .int .i64 x.ps]) ∧ Below w1.heap.size w1 w' from hA)
  clear hp
  replace h23 := Lib.hid h23
  go_enter_defers Tryz.func9, Tryz.ntmps9
  go_upto_region 2 with fail
  rw [← hw1]
  clear hw1
  go_wp2_with (go_at_call 30; (refine hA.out.mono ?_); rintro e w2 ⟨rfl, hb2⟩; have g2 := h2.call hb2; have g3 := h3.call hb2; have c0 : w2.cell? ⟨w.heap.size, 0, none⟩ = some (.int .i64 0) := Blk.cell g2 0; have f0 := Blk.frozen g2 0; have c1 : w2.cell? ⟨w.heap.size, 1, none⟩ = some (.int .i64 0) := Blk.cell g2 1; have f1 := Blk.frozen g2 1; have c2 : w2.cell? ⟨w.heap.size, 2, none⟩ = some (.int .i64 0) := Blk.cell g2 2; have f2 := Blk.frozen g2 2; have c3 : w2.cell? ⟨w.heap.size, 3, none⟩ = some (.int .i64 0) := Blk.cell g2 3; have f3 := Blk.frozen g2 3; have c4 : w2.cell? ⟨w.heap.size, 4, none⟩ = some (.string ⟨#[]⟩) := Blk.cell g2 4; have f4 := Blk.frozen g2 4; have c5 : w2.cell? ⟨w.heap.size, 5, none⟩ = some (.int .u64 0) := Blk.cell g2 5; have f5 := Blk.frozen g2 5; have c6 : w2.cell? ⟨w.heap.size, 6, none⟩ = some (.int .u64 0) := Blk.cell g2 6; have f6 := Blk.frozen g2 6; have c7 : w2.cell? ⟨w.heap.size, 7, none⟩ = some (.bool false) := Blk.cell g2 7; have f7 := Blk.frozen g2 7; have c8 : w2.cell? ⟨w.heap.size, 8, none⟩ = some (.bool false) := Blk.cell g2 8; have f8 := Blk.frozen g2 8; have c9 : w2.cell? ⟨w.heap.size, 9, none⟩ = some (.int .u64 0) := Blk.cell g2 9; have f9 := Blk.frozen g2 9; have c10 : w2.cell? ⟨w.heap.size, 10, none⟩ = some (.int .u64 0) := Blk.cell g2 10; have f10 := Blk.frozen g2 10; have c11 : w2.cell? ⟨w.heap.size, 11, none⟩ = some (.int .i64 0) := Blk.cell g2 11; have f11 := Blk.frozen g2 11; have c12 : w2.cell? ⟨w.heap.size, 12, none⟩ = some (.int .i64 0) := Blk.cell g2 12; have f12 := Blk.frozen g2 12; have d0 : w2.cell? ⟨w.heap.size + 1, 0, none⟩ = some (.bool false) := Blk.cell g3 0; have e0 := Blk.frozen g3 0)
  refine leaves_cons (f := 29) (args := #[.pointer (some ⟨w.heap.size, 0, none⟩), .pointer (some ⟨w.heap.size + 1, 0, none⟩)]) (by simp) (by simp [go_sem]) ?_
  refine (parse1_idle w.heap.size (w.heap.size + 1) _).mono ?_
  rintro e u' w5 ⟨rfl, rfl, rfl⟩
  obtain ⟨k2, k3, hkX⟩ := act_stored g2 g3 h23.out (.int .i64 x.k) (.int .i64 x.at_) (.int .i64 x.id) (.int .i64 x.n) (.string ⟨x.s.toArray⟩) (.int .u64 ((x.a : Nat) : Int)) (.int .u64 ((x.b : Nat) : Int)) (.bool x.on) (.bool x.v6) (.int .u64 ((x.hi : Nat) : Int)) (.int .u64 ((x.lo : Nat) : Int)) (.int .i64 x.pk) (.int .i64 x.ps) (.bool true)
  generalize ((((((((((((((w2.setCell ⟨w.heap.size, 0, none⟩ (.int .i64 x.k)).setCell ⟨w.heap.size, 1, none⟩ (.int .i64 x.at_)).setCell ⟨w.heap.size, 2, none⟩ (.int .i64 x.id)).setCell ⟨w.heap.size, 3, none⟩ (.int .i64 x.n)).setCell ⟨w.heap.size, 4, none⟩ (.string ⟨x.s.toArray⟩)).setCell ⟨w.heap.size, 5, none⟩ (.int .u64 ((x.a : Nat) : Int))).setCell ⟨w.heap.size, 6, none⟩ (.int .u64 ((x.b : Nat) : Int))).setCell ⟨w.heap.size, 7, none⟩ (.bool x.on)).setCell ⟨w.heap.size, 8, none⟩ (.bool x.v6)).setCell ⟨w.heap.size, 9, none⟩ (.int .u64 ((x.hi : Nat) : Int))).setCell ⟨w.heap.size, 10, none⟩ (.int .u64 ((x.lo : Nat) : Int))).setCell ⟨w.heap.size, 11, none⟩ (.int .i64 x.pk)).setCell ⟨w.heap.size, 12, none⟩ (.int .i64 x.ps)).setCell ⟨w.heap.size + 1, 0, none⟩ (.bool true)) = w6 at *
  have hk5 : Below w.heap.size w w6 := (below_chain hb2 hb1).trans (hkX.below (fun b hb h => by rcases h with h | h <;> omega) (below_chain hb2 hb1).size)
  clear d0 e0 c0 f0 c1 f1 c2 f2 c3 f3 c4 f4 c5 f5 c6 f6 c7 f7 c8 f8 c9 f9 c10 f10 c11 f11 c12 f12 
  have c0 : w6.cell? ⟨w.heap.size, 0, none⟩ = some (.int .i64 x.k) := Blk.cell k2 0
  have c1 : w6.cell? ⟨w.heap.size, 1, none⟩ = some (.int .i64 x.at_) := Blk.cell k2 1
  have c2 : w6.cell? ⟨w.heap.size, 2, none⟩ = some (.int .i64 x.id) := Blk.cell k2 2
  have c3 : w6.cell? ⟨w.heap.size, 3, none⟩ = some (.int .i64 x.n) := Blk.cell k2 3
  have c4 : w6.cell? ⟨w.heap.size, 4, none⟩ = some (.string ⟨x.s.toArray⟩) := Blk.cell k2 4
  have c5 : w6.cell? ⟨w.heap.size, 5, none⟩ = some (.int .u64 ((x.a : Nat) : Int)) := Blk.cell k2 5
  have c6 : w6.cell? ⟨w.heap.size, 6, none⟩ = some (.int .u64 ((x.b : Nat) : Int)) := Blk.cell k2 6
  have c7 : w6.cell? ⟨w.heap.size, 7, none⟩ = some (.bool x.on) := Blk.cell k2 7
  have c8 : w6.cell? ⟨w.heap.size, 8, none⟩ = some (.bool x.v6) := Blk.cell k2 8
  have c9 : w6.cell? ⟨w.heap.size, 9, none⟩ = some (.int .u64 ((x.hi : Nat) : Int)) := Blk.cell k2 9
  have c10 : w6.cell? ⟨w.heap.size, 10, none⟩ = some (.int .u64 ((x.lo : Nat) : Int)) := Blk.cell k2 10
  have c11 : w6.cell? ⟨w.heap.size, 11, none⟩ = some (.int .i64 x.pk) := Blk.cell k2 11
  have c12 : w6.cell? ⟨w.heap.size, 12, none⟩ = some (.int .i64 x.ps) := Blk.cell k2 12
  have d0 : w6.cell? ⟨w.heap.size + 1, 0, none⟩ = some (.bool true) := Blk.cell k3 0
  simp [Leaves, settle, results, Tryz.results9, go_sem, *]
  exact rfl
theorem scr_on (b : Bool) (w : World) : Calls Tryz.prog 51 #[.bool b] w fun e w' => e = .returned (.string ⟨(onL b).toArray⟩) ∧ w = w' := by
 cases b
 ·
  go_enter Tryz.func51, Tryz.ntmps51
  go_wp2_with fail
  go_ret
  exact ⟨rfl, rfl⟩
 ·
  go_enter Tryz.func51, Tryz.ntmps51
  go_wp2_with fail
  go_ret
  exact ⟨rfl, rfl⟩
theorem scr_text (s : List UInt8) (w : World) (hL : s.length ≤ 1000000) : Calls Tryz.prog 49 #[.string ⟨s.toArray⟩] w fun e w' => e = .returned (.string ⟨(textL s).toArray⟩) ∧ Below w.heap.size w w' := by
 have H := Lib.hid (fun W => oct_hex s W (by omega))
 unfold textL
 by_cases h : s = []
 ·
  subst h
  go_enter Tryz.func49, Tryz.ntmps49
  go_wp2_with fail
  go_ret
  exact ⟨rfl, Below.refl _ _⟩
 ·
  rw [if_neg h]
  have e2 : s.isEmpty = false := by cases s; exact absurd rfl h; rfl
  have e3 : (s == ([] : List UInt8)) = false := by cases s; exact absurd rfl h; rfl
  clear h
  go_enter Tryz.func49, Tryz.ntmps49
  go_wp2_with (go_at_call 70; (refine (H.out _).mono ?_); rintro e w1 ⟨rfl, hb⟩)
  go_ret
  exact ⟨rfl, hb⟩
set_option maxRecDepth 100000 in
theorem scr_may (xs : List Int) (b : Nat) (w : World) (hB : Blk w b 3 (xs.map fun z => Value.int .i64 z).toArray) (hL : xs.length ≤ 1000000) :
  Calls Tryz.prog 37 #[.slice (some ⟨b, 0, none⟩) xs.length xs.length] w fun e w' => e = .returned (.bool (xs.all numOk)) ∧ Below w.heap.size w w' := by
 obtain ⟨p, hp⟩ : ∃ p, xs.all numOk = p := ⟨_, rfl⟩
 rw [hp]
 replace hp := Lib.hid hp
 go_enter Tryz.func37, Tryz.ntmps37
 go_wp2_with fail
 go_loopw [7] (fun i wr => ∃ j : Nat, j ≤ xs.length ∧ i = .int .i64 (j : Nat) ∧ (xs.drop j).all numOk = p ∧ Below w.heap.size w wr) (fun i _ => xs.length - (intOf i).toNat)
 case atStart => exact ⟨0, by omega, rfl, by rw [List.drop_zero]; exact hp.out, Below.refl _ _⟩
 case round =>
  obtain ⟨j, hj, rfl, hm, hb⟩ := hrel
  by_cases hlt : j < xs.length
  ·
   have hlti : (j : Int) < (xs.length : Int) := by omega
   have c0 : wr.cell? ⟨b, j, none⟩ = some (.int .i64 (xs.getD j 0)) := by
    have := (hB.below hb hB.lt).cell j
    rw [this, List.getElem?_toArray, List.getElem?_map, List.getD_eq_getElem?_getD, List.getElem?_eq_getElem hlt]
    rfl
   have hd : xs.drop j = xs.getD j 0 :: xs.drop (j + 1) := by
    rw [List.drop_eq_getElem_cons hlt, List.getD_eq_getElem?_getD, List.getElem?_eq_getElem hlt]
    rfl
   rw [hd, List.all_cons] at hm
   obtain ⟨z, hz⟩ : ∃ z, xs.getD j 0 = z := ⟨_, rfl⟩
   rw [hz] at c0 hm
   replace hz := Lib.hid hz
   clear hd hlt
   by_cases h1 : z < -4611686018427387904
   ·
    have : numOk z = false := by unfold numOk; simp; omega
    rw [this, Bool.false_and] at hm
    subst hm
    go_wp2_with fail
    go_ret
    exact ⟨rfl, hb⟩
   by_cases h2 : 4611686018427387904 < z
   ·
    have : numOk z = false := by unfold numOk; simp; omega
    rw [this, Bool.false_and] at hm
    subst hm
    go_wp2_with fail
    go_ret
    exact ⟨rfl, hb⟩
   ·
    have : numOk z = true := by unfold numOk; simp; omega
    rw [this, Bool.true_and] at hm
    replace hm := Lib.hid hm
    go_wp2_with fail
    go_roundw
    case rel => exact ⟨j + 1, by omega, by go_num, hm.out, hb⟩
    case measure => simp [intOf]; omega
  ·
   have hlti : ¬ (j : Int) < (xs.length : Int) := by omega
   obtain rfl : j = xs.length := by omega
   rw [List.drop_length, List.all_nil] at hm
   subst hm
   go_wp2_with fail
   go_ret
   exact ⟨rfl, hb⟩
end Go.Proofs.YtodbgjnccngljaaGreatDoor
