/- strconv.FormatUint at base 10: the number's decimal numeral. Acts in memory; the law's 'of'. Words of a line in a row of the document's. -/
import Derived.Test.YtodbgjnccngljaaGreatDoorJ24
import Derived.Lib.AppendIntMem
import Derived.Test.YtodbgjnccngljaaGreatDoorJ19
import Derived.Test.YtodbgjnccngljaaGreatDoorJ16
namespace Go.Proofs.YtodbgjnccngljaaGreatDoor
open Go Go.RowKit Go.Deep Go.Sort Go.Lib
set_option maxRecDepth 100000 in
set_option maxHeartbeats 8000000 in
theorem fmt_uint0 (u : Nat) (hu64 : u < 18446744073709551616) (w : World) (hw : Std w) :
  Calls Tryz.prog 69 #[.int .u64 (u : Nat), .int .i64 10] w fun e w' => e = .returned (.string ⟨(Lib.decDigits u).toArray⟩) ∧ Below w.heap.size w w' := by
 have htab := hw.1
 clear hw
 by_cases hi : u < 100
 ·
  have g1 : (u : Int) < 100 := by omega
  have g2 : IntKind.i64.wrap (u : Int) = (u : Int) := by rw [IntKind.wrap_i64]; omega
  have S := Lib.hid fun W => Tryz.internal_strconv_small u hi W
  clear htab
  go_enter Tryz.func69, Tryz.ntmps69
  go_wp2_with (go_at_call 85; refine (S.out _).mono ?_; rintro e w' ⟨rfl, rfl⟩)
  go_ret
  exact ⟨rfl, Below.refl _ _⟩
 ·
  have hu1 : 1 ≤ u := by omega
  have g1 : ¬ (u : Int) < 100 := by omega
  have hnd20 : Lib.nDigits u ≤ 20 := by have := Lib.numDigits_eq u hu1 hu64; split at this <;> omega
  have hal : Tryz.prog.arrayLen 117 = 24 := by simp [Program.arrayLen, Tryz.underlying117]
  have hsl : ∀ W, (Instr.sliceAt 117 (.pointer (some ⟨w.heap.size, 0, none⟩)) none (some (.int .i64 (Lib.nDigits u : Int))) none).run Tryz.prog W = .ok (.slice (some ⟨w.heap.size, 0, none⟩) (Lib.nDigits u) 24) W := fun W => by
   have z5 := Tryz.sizeOf5
   rw [run_sliceAt_array_h W 117 ⟨w.heap.size, 0, none⟩ (by simp [Program.arrayLen, Program.elem, Tryz.underlying117]) .i64 (Lib.nDigits u : Int) (by omega) (by rw [hal]; omega)]
   have he : Tryz.prog.elem 117 = 5 := by simp [Program.elem, Tryz.underlying117]
   rw [he, z5]
   go_simp
  have hH0 := Lib.holds_zero0 w 117 (Lib.nDigits u) (by omega)
  have hfmt := Tryz.internal_strconv_formatBase10 w.heap.size 0 24 u (Array.replicate (Lib.nDigits u) 0) (w.alloc (.cells Lib.zeros24 117)) hH0 (by rw [Array.size_replicate]; exact Lib.lt_pow_nDigits u) hu64 (by rw [Array.size_replicate]; omega)
  rw [Array.size_replicate] at hfmt
  have HH0 := Lib.hid hH0
  have ND := Lib.hid (Tryz.internal_strconv_numDigits u hu1 hu64 _ (Lib.tabIs_alloc htab (.cells Lib.zeros24 117)))
  replace hfmt := Lib.hid hfmt
  replace hnd20 := Lib.hid hnd20
  clear hH0 hal htab hi
  go_enter Tryz.func69, Tryz.ntmps69
  go_wp2_with (go_at_call 86; refine ND.out.mono ?_; rintro e w' ⟨rfl, rfl⟩)
  go_at_call 87
  refine hfmt.out.mono ?_
  rintro e w' ⟨rfl, k, v', dk, rfl, hF⟩
  have hcv : (convert 82 9 (.slice (some ⟨w.heap.size, 0, none⟩) (Lib.nDigits u) 24)).run Tryz.prog ((putRow (fun (b : UInt8) => Value.int .u8 (b.toNat : Int)) (w.alloc (.cells Lib.zeros24 117)) w.heap.size 0 dk).drewN k) = .ok (.string ⟨(Lib.decDigits u).toArray⟩) ((putRow (fun (b : UInt8) => Value.int .u8 (b.toNat : Int)) (w.alloc (.cells Lib.zeros24 117)) w.heap.size 0 dk).drewN k) := by
   have h := run_convert_bytes_back (P := Tryz.prog) ((putRow (fun (b : UInt8) => Value.int .u8 (b.toNat : Int)) (w.alloc (.cells Lib.zeros24 117)) w.heap.size 0 dk).drewN k) 82 9 5 ⟨w.heap.size, 0, none⟩ 24 (Lib.decDigits u) Tryz.underlying82 Tryz.underlying5 Tryz.underlying9 (fun j hj => by
    rw [Lib.row_is_numeral hF j hj, Lib.add_plain, World.cell?_drewN]
    exact cell?_putRow (fun (b : UInt8) => Value.int .u8 (b.toNat : Int)) _ w.heap.size 0 _ dk HH0.out (by rw [hF.size, Array.size_replicate]) j (by rw [hF.size]; rw [Lib.decDigits_length] at hj; exact hj))
   rw [Lib.decDigits_length] at h
   exact h
  go_wp2
  go_ret
  obtain ⟨os, eo⟩ := Lib.fin_at w (.cells Lib.zeros24 117) dk k 0
  refine ⟨rfl, ?_⟩
  rw [eo]
  exact below_grow w k os
theorem fmt_uint (u : Nat) (hu64 : u < 18446744073709551616) (w : World) (hw : Std w) :
  Calls Tryz.prog 48 #[.int .u64 (u : Nat), .int .i64 10] w fun e w' => e = .returned (.string ⟨(Lib.decDigits u).toArray⟩) ∧ Below w.heap.size w w' := by
 have F := Lib.hid (fmt_uint0 u hu64 w hw)
 clear hw hu64
 go_enter Tryz.func48, Tryz.ntmps48
 go_wp2_with (go_at_call 69; refine F.out.mono ?_; rintro e w1 ⟨rfl, hb⟩)
 go_ret
 exact ⟨rfl, hb⟩
end Go.Proofs.YtodbgjnccngljaaGreatDoor
namespace Go.Proofs.YtodbgjnccngljaaGreatDoor
open Go Go.RowKit Go.Deep
abbrev actC (x : ActL) : List Value := [.int .i64 x.k, .int .i64 x.at_, .int .i64 x.id, .int .i64 x.n, .string ⟨x.s.toArray⟩, .int .u64 ((x.a : Nat) : Int), .int .u64 ((x.b : Nat) : Int), .bool x.on, .bool x.v6, .int .u64 ((x.hi : Nat) : Int), .int .u64 ((x.lo : Nat) : Int), .int .i64 x.pk, .int .i64 x.ps]
theorem actC_one (x : ActL) : ∀ u ∈ actC x, u.oneCell' = true := by
 intro u hu
 simp at hu
 rcases hu with rfl | rfl | rfl | rfl | rfl | rfl | rfl | rfl | rfl | rfl | rfl | rfl | rfl <;> rfl
theorem info_act : (Tryz.prog.info? 34).map (fun i => (i.zero, i.size, i.bytes)) = some (some (.agg #[.int .i64 0, .int .i64 0, .int .i64 0, .int .i64 0, .string ⟨#[]⟩, .int .u64 0, .int .u64 0, .bool false, .bool false, .int .u64 0, .int .u64 0, .int .i64 0, .int .i64 0]), 13, 112) := by kernel_rfl
abbrev OwnF (w : World) (base : Nat) (A : Option Addr) (c : Nat) (l : List ActL) : Prop := OwnA actC 13 34 w base A c l
theorem wpList_push_act {W : World} {cs : Array Value} {ops : Array Oper} {rest : List Oper} {o : Oper} {a : Act} {Q : Exit → Act → World → Prop} (hgd : o.guard = none) (s x : Operand)
  (ho : o.op = .call { callee := .builtin .append, args := #[s, x], argTypes := #[47, 47] })
  (base : Nat) (A : Option Addr) (c : Nat) (l : List ActL) (v : ActL) (n : Nat) (hn : l.length = n) (hs : a.eval s = .slice A n c) (hown : OwnF W base A c l) (g : Nat) (hg : g = W.heap.size) (hcs : actCs v = cs)
  (hx : a.eval x = .slice (some ⟨g, 0, none⟩) 1 1) (hl : n ≤ 1000000) (hbase : base ≤ W.heap.size)
  (h : ∀ A' c' w', OwnF w' base A' c' (l ++ [v]) → Pushed W w' A A' → wpList Tryz.prog ops Q rest (a.put o.dst (.slice A' (n + 1) c')) w') : wpList Tryz.prog ops Q (o :: rest) a (W.alloc (.cells cs 34)) := by
 obtain ⟨i0, hi0, hz0, hz1, hz2⟩ := info_parts info_act
 exact wpList_push actC 13 (fun _ => rfl) actC_one (by omega) 47 i0 _ 112 Tryz.underlying47 hi0 hz0 hz1 hz2 rfl (by omega) hgd s x ho base A c l v n hn hs hown g hg hcs hx (by omega) hbase h
theorem act_put {w : World} {g : Nat} {t : TypeId} {z0 z1 z2 z3 z4 z5 z6 z7 z8 z9 z10 z11 z12 : Value} (h : Blk w g t #[z0, z1, z2, z3, z4, z5, z6, z7, z8, z9, z10, z11, z12]) (a0 a1 a2 a3 a4 a5 a6 a7 a8 a9 a10 a11 a12 : Value) :
  Blk (((((((((((((w.setCell ⟨g, 0, none⟩ (a0)).setCell ⟨g, 1, none⟩ (a1)).setCell ⟨g, 2, none⟩ (a2)).setCell ⟨g, 3, none⟩ (a3)).setCell ⟨g, 4, none⟩ (a4)).setCell ⟨g, 5, none⟩ (a5)).setCell ⟨g, 6, none⟩ (a6)).setCell ⟨g, 7, none⟩ (a7)).setCell ⟨g, 8, none⟩ (a8)).setCell ⟨g, 9, none⟩ (a9)).setCell ⟨g, 10, none⟩ (a10)).setCell ⟨g, 11, none⟩ (a11)).setCell ⟨g, 12, none⟩ (a12)) g t #[a0, a1, a2, a3, a4, a5, a6, a7, a8, a9, a10, a11, a12] ∧ Chg (· = g) w (((((((((((((w.setCell ⟨g, 0, none⟩ (a0)).setCell ⟨g, 1, none⟩ (a1)).setCell ⟨g, 2, none⟩ (a2)).setCell ⟨g, 3, none⟩ (a3)).setCell ⟨g, 4, none⟩ (a4)).setCell ⟨g, 5, none⟩ (a5)).setCell ⟨g, 6, none⟩ (a6)).setCell ⟨g, 7, none⟩ (a7)).setCell ⟨g, 8, none⟩ (a8)).setCell ⟨g, 9, none⟩ (a9)).setCell ⟨g, 10, none⟩ (a10)).setCell ⟨g, 11, none⟩ (a11)).setCell ⟨g, 12, none⟩ (a12)) := by
 have p0 : Blk (w.setCell ⟨g, 0, none⟩ (a0)) g t #[a0, z1, z2, z3, z4, z5, z6, z7, z8, z9, z10, z11, z12] := Blk.setAt h 0 a0
 have m0 : Chg (· = g) w (w.setCell ⟨g, 0, none⟩ (a0)) := (Chg.refl (fun k => k = g) w).setCell (p := ⟨g, 0, none⟩) (fun _ => rfl) _
 have p1 : Blk ((w.setCell ⟨g, 0, none⟩ (a0)).setCell ⟨g, 1, none⟩ (a1)) g t #[a0, a1, z2, z3, z4, z5, z6, z7, z8, z9, z10, z11, z12] := Blk.setAt p0 1 a1
 have m1 : Chg (· = g) w ((w.setCell ⟨g, 0, none⟩ (a0)).setCell ⟨g, 1, none⟩ (a1)) := m0.setCell (p := ⟨g, 1, none⟩) (fun _ => rfl) _
 have p2 : Blk (((w.setCell ⟨g, 0, none⟩ (a0)).setCell ⟨g, 1, none⟩ (a1)).setCell ⟨g, 2, none⟩ (a2)) g t #[a0, a1, a2, z3, z4, z5, z6, z7, z8, z9, z10, z11, z12] := Blk.setAt p1 2 a2
 have m2 : Chg (· = g) w (((w.setCell ⟨g, 0, none⟩ (a0)).setCell ⟨g, 1, none⟩ (a1)).setCell ⟨g, 2, none⟩ (a2)) := m1.setCell (p := ⟨g, 2, none⟩) (fun _ => rfl) _
 have p3 : Blk ((((w.setCell ⟨g, 0, none⟩ (a0)).setCell ⟨g, 1, none⟩ (a1)).setCell ⟨g, 2, none⟩ (a2)).setCell ⟨g, 3, none⟩ (a3)) g t #[a0, a1, a2, a3, z4, z5, z6, z7, z8, z9, z10, z11, z12] := Blk.setAt p2 3 a3
 have m3 : Chg (· = g) w ((((w.setCell ⟨g, 0, none⟩ (a0)).setCell ⟨g, 1, none⟩ (a1)).setCell ⟨g, 2, none⟩ (a2)).setCell ⟨g, 3, none⟩ (a3)) := m2.setCell (p := ⟨g, 3, none⟩) (fun _ => rfl) _
 have p4 : Blk (((((w.setCell ⟨g, 0, none⟩ (a0)).setCell ⟨g, 1, none⟩ (a1)).setCell ⟨g, 2, none⟩ (a2)).setCell ⟨g, 3, none⟩ (a3)).setCell ⟨g, 4, none⟩ (a4)) g t #[a0, a1, a2, a3, a4, z5, z6, z7, z8, z9, z10, z11, z12] := Blk.setAt p3 4 a4
 have m4 : Chg (· = g) w (((((w.setCell ⟨g, 0, none⟩ (a0)).setCell ⟨g, 1, none⟩ (a1)).setCell ⟨g, 2, none⟩ (a2)).setCell ⟨g, 3, none⟩ (a3)).setCell ⟨g, 4, none⟩ (a4)) := m3.setCell (p := ⟨g, 4, none⟩) (fun _ => rfl) _
 have p5 : Blk ((((((w.setCell ⟨g, 0, none⟩ (a0)).setCell ⟨g, 1, none⟩ (a1)).setCell ⟨g, 2, none⟩ (a2)).setCell ⟨g, 3, none⟩ (a3)).setCell ⟨g, 4, none⟩ (a4)).setCell ⟨g, 5, none⟩ (a5)) g t #[a0, a1, a2, a3, a4, a5, z6, z7, z8, z9, z10, z11, z12] := Blk.setAt p4 5 a5
 have m5 : Chg (· = g) w ((((((w.setCell ⟨g, 0, none⟩ (a0)).setCell ⟨g, 1, none⟩ (a1)).setCell ⟨g, 2, none⟩ (a2)).setCell ⟨g, 3, none⟩ (a3)).setCell ⟨g, 4, none⟩ (a4)).setCell ⟨g, 5, none⟩ (a5)) := m4.setCell (p := ⟨g, 5, none⟩) (fun _ => rfl) _
 have p6 : Blk (((((((w.setCell ⟨g, 0, none⟩ (a0)).setCell ⟨g, 1, none⟩ (a1)).setCell ⟨g, 2, none⟩ (a2)).setCell ⟨g, 3, none⟩ (a3)).setCell ⟨g, 4, none⟩ (a4)).setCell ⟨g, 5, none⟩ (a5)).setCell ⟨g, 6, none⟩ (a6)) g t #[a0, a1, a2, a3, a4, a5, a6, z7, z8, z9, z10, z11, z12] := Blk.setAt p5 6 a6
 have m6 : Chg (· = g) w (((((((w.setCell ⟨g, 0, none⟩ (a0)).setCell ⟨g, 1, none⟩ (a1)).setCell ⟨g, 2, none⟩ (a2)).setCell ⟨g, 3, none⟩ (a3)).setCell ⟨g, 4, none⟩ (a4)).setCell ⟨g, 5, none⟩ (a5)).setCell ⟨g, 6, none⟩ (a6)) := m5.setCell (p := ⟨g, 6, none⟩) (fun _ => rfl) _
 have p7 : Blk ((((((((w.setCell ⟨g, 0, none⟩ (a0)).setCell ⟨g, 1, none⟩ (a1)).setCell ⟨g, 2, none⟩ (a2)).setCell ⟨g, 3, none⟩ (a3)).setCell ⟨g, 4, none⟩ (a4)).setCell ⟨g, 5, none⟩ (a5)).setCell ⟨g, 6, none⟩ (a6)).setCell ⟨g, 7, none⟩ (a7)) g t #[a0, a1, a2, a3, a4, a5, a6, a7, z8, z9, z10, z11, z12] := Blk.setAt p6 7 a7
 have m7 : Chg (· = g) w ((((((((w.setCell ⟨g, 0, none⟩ (a0)).setCell ⟨g, 1, none⟩ (a1)).setCell ⟨g, 2, none⟩ (a2)).setCell ⟨g, 3, none⟩ (a3)).setCell ⟨g, 4, none⟩ (a4)).setCell ⟨g, 5, none⟩ (a5)).setCell ⟨g, 6, none⟩ (a6)).setCell ⟨g, 7, none⟩ (a7)) := m6.setCell (p := ⟨g, 7, none⟩) (fun _ => rfl) _
 have p8 : Blk (((((((((w.setCell ⟨g, 0, none⟩ (a0)).setCell ⟨g, 1, none⟩ (a1)).setCell ⟨g, 2, none⟩ (a2)).setCell ⟨g, 3, none⟩ (a3)).setCell ⟨g, 4, none⟩ (a4)).setCell ⟨g, 5, none⟩ (a5)).setCell ⟨g, 6, none⟩ (a6)).setCell ⟨g, 7, none⟩ (a7)).setCell ⟨g, 8, none⟩ (a8)) g t #[a0, a1, a2, a3, a4, a5, a6, a7, a8, z9, z10, z11, z12] := Blk.setAt p7 8 a8
 have m8 : Chg (· = g) w (((((((((w.setCell ⟨g, 0, none⟩ (a0)).setCell ⟨g, 1, none⟩ (a1)).setCell ⟨g, 2, none⟩ (a2)).setCell ⟨g, 3, none⟩ (a3)).setCell ⟨g, 4, none⟩ (a4)).setCell ⟨g, 5, none⟩ (a5)).setCell ⟨g, 6, none⟩ (a6)).setCell ⟨g, 7, none⟩ (a7)).setCell ⟨g, 8, none⟩ (a8)) := m7.setCell (p := ⟨g, 8, none⟩) (fun _ => rfl) _
 have p9 : Blk ((((((((((w.setCell ⟨g, 0, none⟩ (a0)).setCell ⟨g, 1, none⟩ (a1)).setCell ⟨g, 2, none⟩ (a2)).setCell ⟨g, 3, none⟩ (a3)).setCell ⟨g, 4, none⟩ (a4)).setCell ⟨g, 5, none⟩ (a5)).setCell ⟨g, 6, none⟩ (a6)).setCell ⟨g, 7, none⟩ (a7)).setCell ⟨g, 8, none⟩ (a8)).setCell ⟨g, 9, none⟩ (a9)) g t #[a0, a1, a2, a3, a4, a5, a6, a7, a8, a9, z10, z11, z12] := Blk.setAt p8 9 a9
 have m9 : Chg (· = g) w ((((((((((w.setCell ⟨g, 0, none⟩ (a0)).setCell ⟨g, 1, none⟩ (a1)).setCell ⟨g, 2, none⟩ (a2)).setCell ⟨g, 3, none⟩ (a3)).setCell ⟨g, 4, none⟩ (a4)).setCell ⟨g, 5, none⟩ (a5)).setCell ⟨g, 6, none⟩ (a6)).setCell ⟨g, 7, none⟩ (a7)).setCell ⟨g, 8, none⟩ (a8)).setCell ⟨g, 9, none⟩ (a9)) := m8.setCell (p := ⟨g, 9, none⟩) (fun _ => rfl) _
 have p10 : Blk (((((((((((w.setCell ⟨g, 0, none⟩ (a0)).setCell ⟨g, 1, none⟩ (a1)).setCell ⟨g, 2, none⟩ (a2)).setCell ⟨g, 3, none⟩ (a3)).setCell ⟨g, 4, none⟩ (a4)).setCell ⟨g, 5, none⟩ (a5)).setCell ⟨g, 6, none⟩ (a6)).setCell ⟨g, 7, none⟩ (a7)).setCell ⟨g, 8, none⟩ (a8)).setCell ⟨g, 9, none⟩ (a9)).setCell ⟨g, 10, none⟩ (a10)) g t #[a0, a1, a2, a3, a4, a5, a6, a7, a8, a9, a10, z11, z12] := Blk.setAt p9 10 a10
 have m10 : Chg (· = g) w (((((((((((w.setCell ⟨g, 0, none⟩ (a0)).setCell ⟨g, 1, none⟩ (a1)).setCell ⟨g, 2, none⟩ (a2)).setCell ⟨g, 3, none⟩ (a3)).setCell ⟨g, 4, none⟩ (a4)).setCell ⟨g, 5, none⟩ (a5)).setCell ⟨g, 6, none⟩ (a6)).setCell ⟨g, 7, none⟩ (a7)).setCell ⟨g, 8, none⟩ (a8)).setCell ⟨g, 9, none⟩ (a9)).setCell ⟨g, 10, none⟩ (a10)) := m9.setCell (p := ⟨g, 10, none⟩) (fun _ => rfl) _
 have p11 : Blk ((((((((((((w.setCell ⟨g, 0, none⟩ (a0)).setCell ⟨g, 1, none⟩ (a1)).setCell ⟨g, 2, none⟩ (a2)).setCell ⟨g, 3, none⟩ (a3)).setCell ⟨g, 4, none⟩ (a4)).setCell ⟨g, 5, none⟩ (a5)).setCell ⟨g, 6, none⟩ (a6)).setCell ⟨g, 7, none⟩ (a7)).setCell ⟨g, 8, none⟩ (a8)).setCell ⟨g, 9, none⟩ (a9)).setCell ⟨g, 10, none⟩ (a10)).setCell ⟨g, 11, none⟩ (a11)) g t #[a0, a1, a2, a3, a4, a5, a6, a7, a8, a9, a10, a11, z12] := Blk.setAt p10 11 a11
 have m11 : Chg (· = g) w ((((((((((((w.setCell ⟨g, 0, none⟩ (a0)).setCell ⟨g, 1, none⟩ (a1)).setCell ⟨g, 2, none⟩ (a2)).setCell ⟨g, 3, none⟩ (a3)).setCell ⟨g, 4, none⟩ (a4)).setCell ⟨g, 5, none⟩ (a5)).setCell ⟨g, 6, none⟩ (a6)).setCell ⟨g, 7, none⟩ (a7)).setCell ⟨g, 8, none⟩ (a8)).setCell ⟨g, 9, none⟩ (a9)).setCell ⟨g, 10, none⟩ (a10)).setCell ⟨g, 11, none⟩ (a11)) := m10.setCell (p := ⟨g, 11, none⟩) (fun _ => rfl) _
 have p12 : Blk (((((((((((((w.setCell ⟨g, 0, none⟩ (a0)).setCell ⟨g, 1, none⟩ (a1)).setCell ⟨g, 2, none⟩ (a2)).setCell ⟨g, 3, none⟩ (a3)).setCell ⟨g, 4, none⟩ (a4)).setCell ⟨g, 5, none⟩ (a5)).setCell ⟨g, 6, none⟩ (a6)).setCell ⟨g, 7, none⟩ (a7)).setCell ⟨g, 8, none⟩ (a8)).setCell ⟨g, 9, none⟩ (a9)).setCell ⟨g, 10, none⟩ (a10)).setCell ⟨g, 11, none⟩ (a11)).setCell ⟨g, 12, none⟩ (a12)) g t #[a0, a1, a2, a3, a4, a5, a6, a7, a8, a9, a10, a11, a12] := Blk.setAt p11 12 a12
 have m12 : Chg (· = g) w (((((((((((((w.setCell ⟨g, 0, none⟩ (a0)).setCell ⟨g, 1, none⟩ (a1)).setCell ⟨g, 2, none⟩ (a2)).setCell ⟨g, 3, none⟩ (a3)).setCell ⟨g, 4, none⟩ (a4)).setCell ⟨g, 5, none⟩ (a5)).setCell ⟨g, 6, none⟩ (a6)).setCell ⟨g, 7, none⟩ (a7)).setCell ⟨g, 8, none⟩ (a8)).setCell ⟨g, 9, none⟩ (a9)).setCell ⟨g, 10, none⟩ (a10)).setCell ⟨g, 11, none⟩ (a11)).setCell ⟨g, 12, none⟩ (a12)) := m11.setCell (p := ⟨g, 12, none⟩) (fun _ => rfl) _
 exact ⟨p12, m12⟩
theorem act_rd {w : World} {n : Nat} {A : Option Addr} {l : List ActL} {B : Nat} (h : Reads w B 13 A n (l.flatMap actC)) (hn : l.length = n) {k : Nat} (hk : k < l.length) :
  ∃ ad, A = some ad ∧ w.cell? (ad.add (k * 13)) = some (.int .i64 (l.getD k (zeroL 0)).k) ∧ w.cell? ⟨(ad.add (k * 13)).block, (ad.add (k * 13)).off + 1, none⟩ = some (.int .i64 (l.getD k (zeroL 0)).at_) ∧ w.cell? ⟨(ad.add (k * 13)).block, (ad.add (k * 13)).off + 2, none⟩ = some (.int .i64 (l.getD k (zeroL 0)).id) ∧ w.cell? ⟨(ad.add (k * 13)).block, (ad.add (k * 13)).off + 3, none⟩ = some (.int .i64 (l.getD k (zeroL 0)).n) ∧ w.cell? ⟨(ad.add (k * 13)).block, (ad.add (k * 13)).off + 4, none⟩ = some (.string ⟨(l.getD k (zeroL 0)).s.toArray⟩) ∧ w.cell? ⟨(ad.add (k * 13)).block, (ad.add (k * 13)).off + 5, none⟩ = some (.int .u64 (((l.getD k (zeroL 0)).a : Nat) : Int)) ∧ w.cell? ⟨(ad.add (k * 13)).block, (ad.add (k * 13)).off + 6, none⟩ = some (.int .u64 (((l.getD k (zeroL 0)).b : Nat) : Int)) ∧ w.cell? ⟨(ad.add (k * 13)).block, (ad.add (k * 13)).off + 7, none⟩ = some (.bool (l.getD k (zeroL 0)).on) ∧ w.cell? ⟨(ad.add (k * 13)).block, (ad.add (k * 13)).off + 8, none⟩ = some (.bool (l.getD k (zeroL 0)).v6) ∧ w.cell? ⟨(ad.add (k * 13)).block, (ad.add (k * 13)).off + 9, none⟩ = some (.int .u64 (((l.getD k (zeroL 0)).hi : Nat) : Int)) ∧ w.cell? ⟨(ad.add (k * 13)).block, (ad.add (k * 13)).off + 10, none⟩ = some (.int .u64 (((l.getD k (zeroL 0)).lo : Nat) : Int)) ∧ w.cell? ⟨(ad.add (k * 13)).block, (ad.add (k * 13)).off + 11, none⟩ = some (.int .i64 (l.getD k (zeroL 0)).pk) ∧ w.cell? ⟨(ad.add (k * 13)).block, (ad.add (k * 13)).off + 12, none⟩ = some (.int .i64 (l.getD k (zeroL 0)).ps) := by
 subst hn
 obtain ⟨ad, rfl, -, hc⟩ := h.rec_at actC (fun _ => rfl) hk
 have e : l[k] = l.getD k (zeroL 0) := by rw [List.getD_eq_getElem?_getD, List.getElem?_eq_getElem hk]; rfl
 rw [e] at hc
 exact ⟨ad, rfl, hc 0 _ rfl, hc 1 _ rfl, hc 2 _ rfl, hc 3 _ rfl, hc 4 _ rfl, hc 5 _ rfl, hc 6 _ rfl, hc 7 _ rfl, hc 8 _ rfl, hc 9 _ rfl, hc 10 _ rfl, hc 11 _ rfl, hc 12 _ rfl⟩
set_option maxRecDepth 100000 in
set_option maxHeartbeats 8000000 in
theorem law_of (x : ActL) (w : World) : Calls Tryz.prog 7 #[.agg #[.int .i64 x.k, .int .i64 x.at_, .int .i64 x.id, .int .i64 x.n, .string ⟨x.s.toArray⟩, .int .u64 ((x.a : Nat) : Int), .int .u64 ((x.b : Nat) : Int), .bool x.on, .bool x.v6, .int .u64 ((x.hi : Nat) : Int), .int .u64 ((x.lo : Nat) : Int), .int .i64 x.pk, .int .i64 x.ps]] w fun e w' => e = .returned (.agg #[.int .i64 x.k, .int .i64 x.at_, .int .i64 x.id, .int .i64 x.n, .string ⟨x.s.toArray⟩, .int .u64 ((x.a : Nat) : Int), .int .u64 ((x.b : Nat) : Int), .bool x.on, .bool x.v6, .int .u64 ((x.hi : Nat) : Int), .int .u64 ((x.lo : Nat) : Int), .int .i64 x.pk, .int .i64 x.ps]) ∧ Below w.heap.size w w' := by
 obtain ⟨w1, hw1⟩ : ∃ w1, w1 = (w.alloc (.cells #[.int .i64 x.k, .int .i64 x.at_, .int .i64 x.id, .int .i64 x.n, .string ⟨x.s.toArray⟩, .int .u64 ((x.a : Nat) : Int), .int .u64 ((x.b : Nat) : Int), .bool x.on, .bool x.v6, .int .u64 ((x.hi : Nat) : Int), .int .u64 ((x.lo : Nat) : Int), .int .i64 x.pk, .int .i64 x.ps] 28)).alloc (.cells #[.int .i64 0, .int .i64 0, .int .i64 0, .int .i64 0, .string ⟨#[]⟩, .int .u64 0, .int .u64 0, .bool false, .bool false, .int .u64 0, .int .u64 0, .int .i64 0, .int .i64 0] 34) := ⟨_, rfl⟩
 have hb1 : Below w.heap.size w w1 := hw1 ▸ below_alloc (below_alloc (Below.refl _ _) _) _
 have h1 : Blk w1 w.heap.size 28 (actCs x) := by rw [hw1]; exact (Blk.new w 28 _).alloc _
 have h2 : Blk w1 (w.heap.size + 1) 34 #[.int .i64 0, .int .i64 0, .int .i64 0, .int .i64 0, .string ⟨#[]⟩, .int .u64 0, .int .u64 0, .bool false, .bool false, .int .u64 0, .int .u64 0, .int .i64 0, .int .i64 0] := by
  rw [hw1]
  have := Blk.new (w.alloc (.cells #[.int .i64 x.k, .int .i64 x.at_, .int .i64 x.id, .int .i64 x.n, .string ⟨x.s.toArray⟩, .int .u64 ((x.a : Nat) : Int), .int .u64 ((x.b : Nat) : Int), .bool x.on, .bool x.v6, .int .u64 ((x.hi : Nat) : Int), .int .u64 ((x.lo : Nat) : Int), .int .i64 x.pk, .int .i64 x.ps] 28)) 34 #[.int .i64 0, .int .i64 0, .int .i64 0, .int .i64 0, .string ⟨#[]⟩, .int .u64 0, .int .u64 0, .bool false, .bool false, .int .u64 0, .int .u64 0, .int .i64 0, .int .i64 0]
  rw [show (w.alloc (.cells #[.int .i64 x.k, .int .i64 x.at_, .int .i64 x.id, .int .i64 x.n, .string ⟨x.s.toArray⟩, .int .u64 ((x.a : Nat) : Int), .int .u64 ((x.b : Nat) : Int), .bool x.on, .bool x.v6, .int .u64 ((x.hi : Nat) : Int), .int .u64 ((x.lo : Nat) : Int), .int .i64 x.pk, .int .i64 x.ps] 28)).heap.size = w.heap.size + 1 by simp] at this
  exact this
 have hs1 : w1.heap.size = w.heap.size + 2 := by rw [hw1]; simp
 obtain ⟨c0, c1, c2, c3, c4, c5, c6, c7, c8, c9, c10, c11, c12⟩ := act13 h1
 have K := act_put h2 (.int .i64 x.k) (.int .i64 x.at_) (.int .i64 x.id) (.int .i64 x.n) (.string ⟨x.s.toArray⟩) (.int .u64 ((x.a : Nat) : Int)) (.int .u64 ((x.b : Nat) : Int)) (.bool x.on) (.bool x.v6) (.int .u64 ((x.hi : Nat) : Int)) (.int .u64 ((x.lo : Nat) : Int)) (.int .i64 x.pk) (.int .i64 x.ps)
 have z0 : w1.cell? ⟨w.heap.size + 1, 0, none⟩ = some (.int .i64 0) := Blk.cell h2 0
 have f0 := Blk.frozen h2 0
 have z1 : w1.cell? ⟨w.heap.size + 1, 1, none⟩ = some (.int .i64 0) := Blk.cell h2 1
 have f1 := Blk.frozen h2 1
 have z2 : w1.cell? ⟨w.heap.size + 1, 2, none⟩ = some (.int .i64 0) := Blk.cell h2 2
 have f2 := Blk.frozen h2 2
 have z3 : w1.cell? ⟨w.heap.size + 1, 3, none⟩ = some (.int .i64 0) := Blk.cell h2 3
 have f3 := Blk.frozen h2 3
 have z4 : w1.cell? ⟨w.heap.size + 1, 4, none⟩ = some (.string ⟨#[]⟩) := Blk.cell h2 4
 have f4 := Blk.frozen h2 4
 have z5 : w1.cell? ⟨w.heap.size + 1, 5, none⟩ = some (.int .u64 0) := Blk.cell h2 5
 have f5 := Blk.frozen h2 5
 have z6 : w1.cell? ⟨w.heap.size + 1, 6, none⟩ = some (.int .u64 0) := Blk.cell h2 6
 have f6 := Blk.frozen h2 6
 have z7 : w1.cell? ⟨w.heap.size + 1, 7, none⟩ = some (.bool false) := Blk.cell h2 7
 have f7 := Blk.frozen h2 7
 have z8 : w1.cell? ⟨w.heap.size + 1, 8, none⟩ = some (.bool false) := Blk.cell h2 8
 have f8 := Blk.frozen h2 8
 have z9 : w1.cell? ⟨w.heap.size + 1, 9, none⟩ = some (.int .u64 0) := Blk.cell h2 9
 have f9 := Blk.frozen h2 9
 have z10 : w1.cell? ⟨w.heap.size + 1, 10, none⟩ = some (.int .u64 0) := Blk.cell h2 10
 have f10 := Blk.frozen h2 10
 have z11 : w1.cell? ⟨w.heap.size + 1, 11, none⟩ = some (.int .i64 0) := Blk.cell h2 11
 have f11 := Blk.frozen h2 11
 have z12 : w1.cell? ⟨w.heap.size + 1, 12, none⟩ = some (.int .i64 0) := Blk.cell h2 12
 have f12 := Blk.frozen h2 12
 replace K := Lib.hid K
 clear h1 h2
 replace hb1 := Lib.hid hb1
 replace hs1 := Lib.hid hs1
 go_enter Tryz.func7, Tryz.ntmps7
 go_upto_region 1 with fail
 rw [← hw1]
 clear hw1
 go_wp2_with fail
 obtain ⟨hB, hK⟩ := K.out
 clear z0 f0 z1 f1 z2 f2 z3 f3 z4 f4 z5 f5 z6 f6 z7 f7 z8 f8 z9 f9 z10 f10 z11 f11 z12 f12
 generalize ((((((((((((w1.setCell ⟨w.heap.size + 1, 0, none⟩ (.int .i64 x.k)).setCell ⟨w.heap.size + 1, 1, none⟩ (.int .i64 x.at_)).setCell ⟨w.heap.size + 1, 2, none⟩ (.int .i64 x.id)).setCell ⟨w.heap.size + 1, 3, none⟩ (.int .i64 x.n)).setCell ⟨w.heap.size + 1, 4, none⟩ (.string ⟨x.s.toArray⟩)).setCell ⟨w.heap.size + 1, 5, none⟩ (.int .u64 ((x.a : Nat) : Int))).setCell ⟨w.heap.size + 1, 6, none⟩ (.int .u64 ((x.b : Nat) : Int))).setCell ⟨w.heap.size + 1, 7, none⟩ (.bool x.on)).setCell ⟨w.heap.size + 1, 8, none⟩ (.bool x.v6)).setCell ⟨w.heap.size + 1, 9, none⟩ (.int .u64 ((x.hi : Nat) : Int))).setCell ⟨w.heap.size + 1, 10, none⟩ (.int .u64 ((x.lo : Nat) : Int))).setCell ⟨w.heap.size + 1, 11, none⟩ (.int .i64 x.pk)).setCell ⟨w.heap.size + 1, 12, none⟩ (.int .i64 x.ps) = w2 at *
 refine bodyPost_ret (v := .agg #[.int .i64 x.k, .int .i64 x.at_, .int .i64 x.id, .int .i64 x.n, .string ⟨x.s.toArray⟩, .int .u64 ((x.a : Nat) : Int), .int .u64 ((x.b : Nat) : Int), .bool x.on, .bool x.v6, .int .u64 ((x.hi : Nat) : Int), .int .u64 ((x.lo : Nat) : Int), .int .i64 x.pk, .int .i64 x.ps]) (results_cell rfl rfl (loadVar_blk 34 hB [.int .i64 x.k, .int .i64 x.at_, .int .i64 x.id, .int .i64 x.n, .string ⟨x.s.toArray⟩, .int .u64 ((x.a : Nat) : Int), .int .u64 ((x.b : Nat) : Int), .bool x.on, .bool x.v6, .int .u64 ((x.hi : Nat) : Int), .int .u64 ((x.lo : Nat) : Int), .int .i64 x.pk, .int .i64 x.ps] rfl _ Tryz.underlying34 rfl (by kernel_rfl))) rfl ?_
 exact ⟨rfl, hb1.out.trans (hK.below (fun b hb h => by have := hs1.out; omega) hb1.out.size)⟩
theorem own_form {w : World} {base : Nat} {A : Option Addr} {c : Nat} {xs : List (List UInt8)} (h : OwnS w base A c xs) (h0 : xs ≠ []) : ∃ g, A = some ⟨g, 0, none⟩ ∧ xs.length ≤ c := by
 rcases h.2 with ⟨h1, h2⟩ | ⟨g, cap, cur, h1, hg, hh, hr, hq⟩
 · exact absurd (List.length_eq_zero_iff.1 h2) h0
 ·
  simp only [Value.slice.injEq] at h1
  obtain ⟨rfl, -, rfl⟩ := h1
  exact ⟨g, rfl, hr⟩
theorem own_first {w : World} {base g c : Nat} {xs : List (List UInt8)} (h : OwnS w base (some ⟨g, 0, none⟩) c xs) (h0 : 0 < xs.length) : w.cell? ⟨g, 0, none⟩ = some (.string ⟨(wAt xs 0).toArray⟩) := by
 obtain ⟨ad, e, -, hc⟩ := own_at h h0
 cases e
 exact hc
theorem own_ne5 {w : World} {base g g5 c : Nat} {xs : List (List UInt8)} (h : OwnS w base (some ⟨g, 0, none⟩) c xs) (h5 : w.heap.size ≤ g5) : ¬ g = g5 := by
 have := (OwnA.block h ⟨_, rfl, rfl⟩).2
 show ¬ g = g5
 have h2 : g < w.heap.size := this
 omega
theorem rs_wordC {w w' : World} {base g g5 c : Nat} {ws : List (List UInt8)} {i : Nat} {x : List UInt8} (h : OwnS w base (some ⟨g, 0, none⟩) c ws) (k : Chg (fun k => k = g5) w w') (hn : ¬ g = g5) (hx : wAt ws i = x) :
  Calls Tryz.prog 33 #[.slice (some ⟨g, 0, none⟩) ws.length c, .int .i64 (i : Nat)] w' fun e w2 => e = .returned (.string ⟨x.toArray⟩) ∧ w' = w2 := by
 rw [← hx]
 exact rs_word _ _ ws i base w' (OwnA.chg h k (fun b hb e => by obtain ⟨a, e1, e2⟩ := hb; cases e1; exact hn (e2.trans e)))
end Go.Proofs.YtodbgjnccngljaaGreatDoor
