/- script.bare. Acts compared. The document's acts compared. -/
import Derived.Test.YtodbgjnccngljaaGreatDoorJ23
import Derived.Test.YtodbgjnccngljaaGreatDoorJ19
namespace Go.Proofs.YtodbgjnccngljaaGreatDoor
open Go Go.RowKit Go.Deep
theorem scr_bare (x : ActL) (w : World) (h0 : 0 ≤ x.k) (h11 : x.k ≤ 11) :
  Calls Tryz.prog 38 #[.agg (actCs x)] w fun e w' => e = .returned (.agg (actCs (bareL x))) ∧ Below w.heap.size w w' := by
 obtain ⟨k, at_, id, n, s, a, b, on, v6, hi, lo, pk, ps⟩ := x
 have hk : k = 0 ∨ k = 1 ∨ k = 2 ∨ k = 3 ∨ k = 4 ∨ k = 5 ∨ k = 6 ∨ k = 7 ∨ k = 8 ∨ k = 9 ∨ k = 10 ∨ k = 11 := by
  simp only at h0 h11
  omega
 clear h0 h11
 rcases hk with rfl | rfl | rfl | rfl | rfl | rfl | rfl | rfl | rfl | rfl | rfl | rfl
 · exact scr_bare0 at_ id n s a b on v6 hi lo pk ps w
 · exact scr_bare1 at_ id n s a b on v6 hi lo pk ps w
 · exact scr_bare2 at_ id n s a b on v6 hi lo pk ps w
 · exact scr_bare3 at_ id n s a b on v6 hi lo pk ps w
 · exact scr_bare4 at_ id n s a b on v6 hi lo pk ps w
 · exact scr_bare5 at_ id n s a b on v6 hi lo pk ps w
 · exact scr_bare6 at_ id n s a b on v6 hi lo pk ps w
 · exact scr_bare7 at_ id n s a b on v6 hi lo pk ps w
 · exact scr_bare8 at_ id n s a b on v6 hi lo pk ps w
 · exact scr_bare9 at_ id n s a b on v6 hi lo pk ps w
 · exact scr_bare10 at_ id n s a b on v6 hi lo pk ps w
 · exact scr_bare11 at_ id n s a b on v6 hi lo pk ps w
section
variable {P : Program} {w : World} {d : Nat} {xs ys : Array Value}
theorem eqF_nil : (Op.eqFields d xs ys []).run P w = .ok true w := by simp [Op.eqFields]
theorem eqF_cons {f : Field} {fs : List Field} {a b : Value} {r R : Bool} (hn : f.name ≠ "_") (ha : (part f.type xs f.offset).run P w = .ok a w) (hb : (part f.type ys f.offset).run P w = .ok b w)
  (hr : (Op.equalIn d f.type a b).run P w = .ok r w) (hR : (Op.eqFields d xs ys fs).run P w = .ok R w) : (Op.eqFields d xs ys (f :: fs)).run P w = .ok (r && R) w := by
 simp only [Op.eqFields, Sem.run_bind, Sem.run_ite, if_pos hn, ha, hb, hr, Result.andThen_ok]
 cases r
 · simp
 · simpa using hR
theorem part_one {t : TypeId} {k : TypeDesc} {off : Nat} {v : Value} (hu : P.underlying t = some k) (hk : k.isRow = false) (hx : xs[off]? = some v) : (part t xs off).run P w = .ok v w := by
 unfold part isAgg
 rw [Sem.run_bind, Sem.run_bind, run_underlying hu]
 cases k <;> simp_all [TypeDesc.isRow]
theorem part_row {t : TypeId} {k : TypeDesc} {off n : Nat} (hu : P.underlying t = some k) (hk : k.isRow = true) (hi : (P.info? t).map (·.size) = some n) : (part t xs off).run P w = .ok (.agg (xs.extract off (off + n))) w := by
 obtain ⟨i, hi, rfl⟩ := Option.map_eq_some_iff.1 hi
 unfold part isAgg
 rw [Sem.run_bind, Sem.run_bind, run_underlying hu]
 cases k <;> simp_all [TypeDesc.isRow, sizeOf, typeInfo, Sem.run_bind]
theorem eq_i64 {t : TypeId} (hu : P.underlying t = some (.int .i64)) (a b : Int) : (Op.equalIn (d + 1) t (.int .i64 a) (.int .i64 b)).run P w = .ok (a == b) w := run_equalIn_int w d t .i64 .i64 a b hu
theorem eq_u64 {t : TypeId} (hu : P.underlying t = some (.int .u64)) (a b : Nat) : (Op.equalIn (d + 1) t (.int .u64 (a : Nat)) (.int .u64 (b : Nat))).run P w = .ok (a == b) w := by
 rw [run_equalIn_int w d t .u64 .u64 a b hu]
 congr 1
 rw [Bool.eq_iff_iff, beq_iff_eq, beq_iff_eq]
 constructor <;> intro h <;> omega
theorem eq_str {t : TypeId} (hu : P.underlying t = some .string) (a b : List UInt8) : (Op.equalIn (d + 1) t (.string ⟨a.toArray⟩) (.string ⟨b.toArray⟩)).run P w = .ok (a == b) w := by
 rw [run_equalIn_string w d t _ _ hu, ByteArray.toList_eq, ByteArray.toList_eq]
end
theorem actP_int : Tryz.prog.underlying 3 = some (.int .i64) := Tryz.underlying3
theorem actP_u64 : Tryz.prog.underlying 22 = some (.int .u64) := Tryz.underlying22
theorem addr_eqIn (v : Bool) (hi lo : Nat) (v' : Bool) (hi' lo' : Nat) (d : Nat) (w : World) :
  (Op.equalIn (d + 2) 24 (.agg #[.bool v, .int .u64 (hi : Nat), .int .u64 (lo : Nat)]) (.agg #[.bool v', .int .u64 (hi' : Nat), .int .u64 (lo' : Nat)])).run Tryz.prog w = .ok (adrB v hi lo v' hi' lo') w := by
 have hS : Tryz.prog.underlying 24 = some (.struct (Tryz.prog.fieldsOf 24)) := by kernel_rfl
 have hp : Tryz.prog.stoodInHeld 24 = false := by kernel_rfl
 have e : adrB v hi lo v' hi' lo' = ((v == v') && ((hi == hi') && ((lo == lo') && true))) := by unfold adrB; simp
 rw [run_equalIn_agg w (d + 1) 24 _ _ hS hp, e]
 clear hS hp
 simp only [Program.fieldsOf, Tryz.underlying24]
 exact eqF_cons (by decide) (part_one Tryz.underlying4 rfl rfl) (part_one Tryz.underlying4 rfl rfl) (run_equalIn_bool w _ _ _ _ Tryz.underlying4)
  (eqF_cons (by decide) (part_one actP_u64 rfl rfl) (part_one actP_u64 rfl rfl) (eq_u64 actP_u64 _ _)
  (eqF_cons (by decide) (part_one actP_u64 rfl rfl) (part_one actP_u64 rfl rfl) (eq_u64 actP_u64 _ _) eqF_nil))
theorem pol_eqIn (k s k' s' : Int) (d : Nat) (w : World) :
  (Op.equalIn (d + 2) 32 (.agg #[.int .i64 k, .int .i64 s]) (.agg #[.int .i64 k', .int .i64 s'])).run Tryz.prog w = .ok ((k == k') && ((s == s') && true)) w := by
 have hS : Tryz.prog.underlying 32 = some (.struct (Tryz.prog.fieldsOf 32)) := by kernel_rfl
 have hp : Tryz.prog.stoodInHeld 32 = false := by kernel_rfl
 rw [run_equalIn_agg w (d + 1) 32 _ _ hS hp]
 clear hS hp
 simp only [Program.fieldsOf, Tryz.underlying32]
 exact eqF_cons (by decide) (part_one actP_int rfl rfl) (part_one actP_int rfl rfl) (eq_i64 actP_int _ _)
  (eqF_cons (by decide) (part_one actP_int rfl rfl) (part_one actP_int rfl rfl) (eq_i64 actP_int _ _) eqF_nil)
theorem act_eqIn (x y : ActL) (d : Nat) (w : World) : (Op.equalIn (d + 3) 34 (.agg (actCs x)) (.agg (actCs y))).run Tryz.prog w = .ok (eqL x y) w := by
 have hS : Tryz.prog.underlying 34 = some (.struct (Tryz.prog.fieldsOf 34)) := by kernel_rfl
 have hp : Tryz.prog.stoodInHeld 34 = false := by kernel_rfl
 have hiA : (Tryz.prog.info? 24).map (·.size) = some 3 := by kernel_rfl
 have hiP : (Tryz.prog.info? 32).map (·.size) = some 2 := by kernel_rfl
 have e : eqL x y = (x.k == y.k && (x.at_ == y.at_ && (x.id == y.id && (x.n == y.n && (x.s == y.s && (x.a == y.a && (x.b == y.b && (x.on == y.on && (adrB x.v6 x.hi x.lo y.v6 y.hi y.lo && ((x.pk == y.pk && (x.ps == y.ps && true)) && true)))))))))) := by
  unfold eqL; simp
 rw [run_equalIn_agg w (d + 2) 34 _ _ hS hp, e]
 clear hS hp
 simp only [Program.fieldsOf, Tryz.underlying34]
 exact eqF_cons (by decide) (part_one actP_int rfl rfl) (part_one actP_int rfl rfl) (eq_i64 actP_int _ _)
  (eqF_cons (by decide) (part_one actP_int rfl rfl) (part_one actP_int rfl rfl) (eq_i64 actP_int _ _)
  (eqF_cons (by decide) (part_one actP_int rfl rfl) (part_one actP_int rfl rfl) (eq_i64 actP_int _ _)
  (eqF_cons (by decide) (part_one actP_int rfl rfl) (part_one actP_int rfl rfl) (eq_i64 actP_int _ _)
  (eqF_cons (by decide) (part_one Tryz.underlying9 rfl rfl) (part_one Tryz.underlying9 rfl rfl) (eq_str Tryz.underlying9 _ _)
  (eqF_cons (by decide) (part_one actP_u64 rfl rfl) (part_one actP_u64 rfl rfl) (eq_u64 actP_u64 _ _)
  (eqF_cons (by decide) (part_one actP_u64 rfl rfl) (part_one actP_u64 rfl rfl) (eq_u64 actP_u64 _ _)
  (eqF_cons (by decide) (part_one Tryz.underlying4 rfl rfl) (part_one Tryz.underlying4 rfl rfl) (run_equalIn_bool w _ _ _ _ Tryz.underlying4)
  (eqF_cons (by decide) (part_row Tryz.underlying24 rfl hiA) (part_row Tryz.underlying24 rfl hiA) (addr_eqIn x.v6 x.hi x.lo y.v6 y.hi y.lo d w)
  (eqF_cons (by decide) (part_row Tryz.underlying32 rfl hiP) (part_row Tryz.underlying32 rfl hiP) (pol_eqIn x.pk x.ps y.pk y.ps d w) eqF_nil)))))))))
theorem act_eql (x y : ActL) (w : World) : (binOp .eql 34 (.agg (actCs x)) (.agg (actCs y))).run Tryz.prog w = .ok (.bool (eqL x y)) w := by
 rw [run_eql_struct, show (10000 : Nat) = 9997 + 3 from rfl, act_eqIn]
 rfl
theorem act_neq (x y : ActL) (w : World) : (binOp .neq 34 (.agg (actCs x)) (.agg (actCs y))).run Tryz.prog w = .ok (.bool (!eqL x y)) w := by
 rw [run_neq_struct, show (10000 : Nat) = 9997 + 3 from rfl, act_eqIn]
 rfl
theorem act13 {W : World} {g : Nat} {t : TypeId} {x : ActL} (h : Blk W g t (actCs x)) : W.cell? ⟨g, 0, none⟩ = some (.int .i64 x.k) ∧ W.cell? ⟨g, 1, none⟩ = some (.int .i64 x.at_) ∧ W.cell? ⟨g, 2, none⟩ = some (.int .i64 x.id) ∧ W.cell? ⟨g, 3, none⟩ = some (.int .i64 x.n) ∧ W.cell? ⟨g, 4, none⟩ = some (.string ⟨x.s.toArray⟩) ∧ W.cell? ⟨g, 5, none⟩ = some (.int .u64 ((x.a : Nat) : Int)) ∧ W.cell? ⟨g, 6, none⟩ = some (.int .u64 ((x.b : Nat) : Int)) ∧ W.cell? ⟨g, 7, none⟩ = some (.bool x.on) ∧ W.cell? ⟨g, 8, none⟩ = some (.bool x.v6) ∧ W.cell? ⟨g, 9, none⟩ = some (.int .u64 ((x.hi : Nat) : Int)) ∧ W.cell? ⟨g, 10, none⟩ = some (.int .u64 ((x.lo : Nat) : Int)) ∧ W.cell? ⟨g, 11, none⟩ = some (.int .i64 x.pk) ∧ W.cell? ⟨g, 12, none⟩ = some (.int .i64 x.ps) :=
 ⟨h.cell 0, h.cell 1, h.cell 2, h.cell 3, h.cell 4, h.cell 5, h.cell 6, h.cell 7, h.cell 8, h.cell 9, h.cell 10, h.cell 11, h.cell 12⟩
theorem act_guard : Tryz.prog.eqGuardType Tryz.prog.depth 34 = false := by kernel_rfl
theorem rpol_eqIn (k s k' s' : Int) (d : Nat) (w : World) :
  (Op.equalIn (d + 2) 26 (.agg #[.int .i64 k, .int .i64 s]) (.agg #[.int .i64 k', .int .i64 s'])).run Tryz.prog w = .ok ((k == k') && ((s == s') && true)) w := by
 have hS : Tryz.prog.underlying 26 = some (.struct (Tryz.prog.fieldsOf 26)) := by kernel_rfl
 have hp : Tryz.prog.stoodInHeld 26 = false := by kernel_rfl
 rw [run_equalIn_agg w (d + 1) 26 _ _ hS hp]
 clear hS hp
 simp only [Program.fieldsOf, Tryz.underlying26]
 exact eqF_cons (by decide) (part_one actP_int rfl rfl) (part_one actP_int rfl rfl) (eq_i64 actP_int _ _)
  (eqF_cons (by decide) (part_one actP_int rfl rfl) (part_one actP_int rfl rfl) (eq_i64 actP_int _ _) eqF_nil)
theorem ract_eqIn (x y : ActL) (d : Nat) (w : World) : (Op.equalIn (d + 3) 28 (.agg (actCs x)) (.agg (actCs y))).run Tryz.prog w = .ok (eqL x y) w := by
 have hS : Tryz.prog.underlying 28 = some (.struct (Tryz.prog.fieldsOf 28)) := by kernel_rfl
 have hp : Tryz.prog.stoodInHeld 28 = false := by kernel_rfl
 have hiA : (Tryz.prog.info? 24).map (·.size) = some 3 := by kernel_rfl
 have hiP : (Tryz.prog.info? 26).map (·.size) = some 2 := by kernel_rfl
 have e : eqL x y = (x.k == y.k && (x.at_ == y.at_ && (x.id == y.id && (x.n == y.n && (x.s == y.s && (x.a == y.a && (x.b == y.b && (x.on == y.on && (adrB x.v6 x.hi x.lo y.v6 y.hi y.lo && ((x.pk == y.pk && (x.ps == y.ps && true)) && true)))))))))) := by
  unfold eqL; simp
 rw [run_equalIn_agg w (d + 2) 28 _ _ hS hp, e]
 clear hS hp
 simp only [Program.fieldsOf, Tryz.underlying28]
 exact eqF_cons (by decide) (part_one actP_int rfl rfl) (part_one actP_int rfl rfl) (eq_i64 actP_int _ _)
  (eqF_cons (by decide) (part_one actP_int rfl rfl) (part_one actP_int rfl rfl) (eq_i64 actP_int _ _)
  (eqF_cons (by decide) (part_one actP_int rfl rfl) (part_one actP_int rfl rfl) (eq_i64 actP_int _ _)
  (eqF_cons (by decide) (part_one actP_int rfl rfl) (part_one actP_int rfl rfl) (eq_i64 actP_int _ _)
  (eqF_cons (by decide) (part_one Tryz.underlying9 rfl rfl) (part_one Tryz.underlying9 rfl rfl) (eq_str Tryz.underlying9 _ _)
  (eqF_cons (by decide) (part_one actP_u64 rfl rfl) (part_one actP_u64 rfl rfl) (eq_u64 actP_u64 _ _)
  (eqF_cons (by decide) (part_one actP_u64 rfl rfl) (part_one actP_u64 rfl rfl) (eq_u64 actP_u64 _ _)
  (eqF_cons (by decide) (part_one Tryz.underlying4 rfl rfl) (part_one Tryz.underlying4 rfl rfl) (run_equalIn_bool w _ _ _ _ Tryz.underlying4)
  (eqF_cons (by decide) (part_row Tryz.underlying24 rfl hiA) (part_row Tryz.underlying24 rfl hiA) (addr_eqIn x.v6 x.hi x.lo y.v6 y.hi y.lo d w)
  (eqF_cons (by decide) (part_row Tryz.underlying26 rfl hiP) (part_row Tryz.underlying26 rfl hiP) (rpol_eqIn x.pk x.ps y.pk y.ps d w) eqF_nil)))))))))
theorem ract_eql (x y : ActL) (w : World) : (binOp .eql 28 (.agg (actCs x)) (.agg (actCs y))).run Tryz.prog w = .ok (.bool (eqL x y)) w := by
 rw [run_eql_struct, show (10000 : Nat) = 9997 + 3 from rfl, ract_eqIn]
 rfl
theorem ract_guard : Tryz.prog.eqGuardType Tryz.prog.depth 28 = false := by kernel_rfl
end Go.Proofs.YtodbgjnccngljaaGreatDoor
