/- table: the document's Same at equal lists. table: both tables in one world. -/
import Derived.Test.YtmkknjhalcocmaaGreatJ29
import Derived.Test.YtmkknjhalcocmaaGreatJ23
import Derived.BigQuiet
import Derived.Test.YtmkknjhalcocmaaGreatJ35
namespace Go.Proofs.YtmkknjhalcocmaaGreat
open Go Go.RowKit Go.Deep Go.Maps Go.ChangeMaps

theorem entB_self (x : Slt) : entB x x = true := by
  unfold entB
  simp [tupB_self]
theorem ent_neq_self (x : Slt) (w : World) : (binOp .neq 55 x.val x.val).run Tryz.prog w = .ok (.bool false) w := by
  have h := ent_eql x x w
  rw [run_eql_struct] at h
  rw [run_neq_struct]
  cases hh : (Op.equalIn 10000 55 x.val x.val).run Tryz.prog w with
  | ok b w' =>
    rw [hh] at h
    simp only [Result.andThen] at h ⊢
    simp only [Result.ok.injEq, Value.bool.injEq] at h
    obtain ⟨h1, rfl⟩ := h
    rw [h1, entB_self]
    rfl
  | _ => rw [hh] at h; simp [Result.andThen] at h
set_option maxRecDepth 100000 in
set_option maxHeartbeats 8000000 in
theorem same19 (w : World) (A B : Option Addr) (qa qb : Nat) (L : List Slt) (hA : Reads w w.heap.size 14 A L.length (L.flatMap Slt.ent)) (hB : Reads w w.heap.size 14 B L.length (L.flatMap Slt.ent)) (hl : L.length ≤ 1000000) :
    Calls Tryz.prog 8 #[.slice A L.length qa, .slice B L.length qb] w fun e w' => e = .returned (.bool true) ∧ Below w.heap.size w w' := by
  replace hA := Lib.hid hA
  replace hB := Lib.hid hB
  have hlen : ((L.length : Int) != (L.length : Int)) = false := by simp
  go_enter Tryz.func8, Tryz.ntmps8
  go_wp2_with fail
  go_loopw [5] (fun iv wr => ∃ k m : Nat, k ≤ L.length ∧ iv = .int .i64 (k : Nat) ∧ wr = w.drewN m) (fun iv _ => L.length - (intOf iv).toNat)
  case atStart => exact ⟨0, 0, by omega, rfl, rfl⟩
  case round =>
    obtain ⟨k, m, hk, rfl, hwr⟩ := hrel
    have hb : Below w.heap.size w wr := by rw [hwr]; exact below_drewN (Below.refl _ _) m
    replace hwr := Lib.hid hwr
    by_cases hlt : k < L.length
    · have hlti : (k : Int) < (L.length : Int) := by omega
      have hk0 : (0 : Int) ≤ (k : Int) := by omega
      obtain ⟨aa, rfl, -, hca⟩ := ((hA.out.below hb)).rec_at Slt.ent (fun _ => rfl) hlt
      obtain ⟨ab, rfl, -, hcb⟩ := ((hB.out.below hb)).rec_at Slt.ent (fun _ => rfl) hlt
      obtain ⟨x, hx⟩ : ∃ x, L[k] = x := ⟨_, rfl⟩
      rw [hx] at hca hcb
      have c0 : wr.cell? (aa.add (k * 14)) = some (.int .i64 x.t.p) := hca 0 _ rfl
      have c1 : wr.cell? ⟨(aa.add (k * 14)).block, (aa.add (k * 14)).off + 1, none⟩ = some (.bool x.t.v) := hca 1 _ rfl
      have c2 : wr.cell? ⟨(aa.add (k * 14)).block, (aa.add (k * 14)).off + 2, none⟩ = some (.int .u64 x.t.hi) := hca 2 _ rfl
      have c3 : wr.cell? ⟨(aa.add (k * 14)).block, (aa.add (k * 14)).off + 3, none⟩ = some (.int .u64 x.t.lo) := hca 3 _ rfl
      have c4 : wr.cell? ⟨(aa.add (k * 14)).block, (aa.add (k * 14)).off + 4, none⟩ = some (.bool x.t.v') := hca 4 _ rfl
      have c5 : wr.cell? ⟨(aa.add (k * 14)).block, (aa.add (k * 14)).off + 5, none⟩ = some (.int .u64 x.t.hi') := hca 5 _ rfl
      have c6 : wr.cell? ⟨(aa.add (k * 14)).block, (aa.add (k * 14)).off + 6, none⟩ = some (.int .u64 x.t.lo') := hca 6 _ rfl
      have c7 : wr.cell? ⟨(aa.add (k * 14)).block, (aa.add (k * 14)).off + 7, none⟩ = some (.int .i64 x.t.sp) := hca 7 _ rfl
      have c8 : wr.cell? ⟨(aa.add (k * 14)).block, (aa.add (k * 14)).off + 8, none⟩ = some (.int .i64 x.t.dp) := hca 8 _ rfl
      have c9 : wr.cell? ⟨(aa.add (k * 14)).block, (aa.add (k * 14)).off + 9, none⟩ = some (.int .i64 x.bk) := hca 9 _ rfl
      have c10 : wr.cell? ⟨(aa.add (k * 14)).block, (aa.add (k * 14)).off + 10, none⟩ = some (.int .i64 x.st) := hca 10 _ rfl
      have c11 : wr.cell? ⟨(aa.add (k * 14)).block, (aa.add (k * 14)).off + 11, none⟩ = some (.int .i64 x.sl) := hca 11 _ rfl
      have c12 : wr.cell? ⟨(aa.add (k * 14)).block, (aa.add (k * 14)).off + 12, none⟩ = some (.int .u64 x.gen) := hca 12 _ rfl
      have c13 : wr.cell? ⟨(aa.add (k * 14)).block, (aa.add (k * 14)).off + 13, none⟩ = some (.int .i64 x.due) := hca 13 _ rfl
      have d0 : wr.cell? (ab.add (k * 14)) = some (.int .i64 x.t.p) := hcb 0 _ rfl
      have d1 : wr.cell? ⟨(ab.add (k * 14)).block, (ab.add (k * 14)).off + 1, none⟩ = some (.bool x.t.v) := hcb 1 _ rfl
      have d2 : wr.cell? ⟨(ab.add (k * 14)).block, (ab.add (k * 14)).off + 2, none⟩ = some (.int .u64 x.t.hi) := hcb 2 _ rfl
      have d3 : wr.cell? ⟨(ab.add (k * 14)).block, (ab.add (k * 14)).off + 3, none⟩ = some (.int .u64 x.t.lo) := hcb 3 _ rfl
      have d4 : wr.cell? ⟨(ab.add (k * 14)).block, (ab.add (k * 14)).off + 4, none⟩ = some (.bool x.t.v') := hcb 4 _ rfl
      have d5 : wr.cell? ⟨(ab.add (k * 14)).block, (ab.add (k * 14)).off + 5, none⟩ = some (.int .u64 x.t.hi') := hcb 5 _ rfl
      have d6 : wr.cell? ⟨(ab.add (k * 14)).block, (ab.add (k * 14)).off + 6, none⟩ = some (.int .u64 x.t.lo') := hcb 6 _ rfl
      have d7 : wr.cell? ⟨(ab.add (k * 14)).block, (ab.add (k * 14)).off + 7, none⟩ = some (.int .i64 x.t.sp) := hcb 7 _ rfl
      have d8 : wr.cell? ⟨(ab.add (k * 14)).block, (ab.add (k * 14)).off + 8, none⟩ = some (.int .i64 x.t.dp) := hcb 8 _ rfl
      have d9 : wr.cell? ⟨(ab.add (k * 14)).block, (ab.add (k * 14)).off + 9, none⟩ = some (.int .i64 x.bk) := hcb 9 _ rfl
      have d10 : wr.cell? ⟨(ab.add (k * 14)).block, (ab.add (k * 14)).off + 10, none⟩ = some (.int .i64 x.st) := hcb 10 _ rfl
      have d11 : wr.cell? ⟨(ab.add (k * 14)).block, (ab.add (k * 14)).off + 11, none⟩ = some (.int .i64 x.sl) := hcb 11 _ rfl
      have d12 : wr.cell? ⟨(ab.add (k * 14)).block, (ab.add (k * 14)).off + 12, none⟩ = some (.int .u64 x.gen) := hcb 12 _ rfl
      have d13 : wr.cell? ⟨(ab.add (k * 14)).block, (ab.add (k * 14)).off + 13, none⟩ = some (.int .i64 x.due) := hcb 13 _ rfl
      have hNE := fun W => ent_neq_self x W
      have hG : Tryz.prog.eqGuardType Tryz.prog.depth 55 = false := by kernel_rfl
      clear hca hcb hx
      go_upto_region 6 with fail
      go_quiet (fail)
      have hwq : wr.drewN nq = w.drewN (m + nq) := by rw [hwr.out, World.drewN_drewN]
      replace hwq := Lib.hid hwq
      clear c0 d0 c1 d1 c2 d2 c3 d3 c4 d4 c5 d5 c6 d6 c7 d7 c8 d8 c9 d9 c10 d10 c11 d11 c12 d12 c13 d13 hNE hG hb
      go_wp2_with fail
      go_roundw
      case rel => exact ⟨k + 1, m + nq, by omega, by go_num, hwq.out⟩
      case measure => simp [intOf]; omega
    · obtain rfl : k = L.length := by omega
      have hlti : ¬ ((L.length : Nat) : Int) < (L.length : Int) := by omega
      go_wp2_with fail
      go_ret
      exact ⟨rfl, hb⟩
end Go.Proofs.YtmkknjhalcocmaaGreat

namespace Go.Proofs.YtmkknjhalcocmaaGreat
open Go Go.RowKit Go.Deep Go.Maps Go.ChangeMaps

/-- Both tables in a law's world, all behind its first world w0: the code's keeps off K1, the document's off K2, each off the other. -/
def TwoT (w0 w : World) (g sb n g2 : Nat) (b : Int) (c : TCfg) (s1 s2 : TSt) (K1 K2 : Nat → Prop) : Prop :=
  TI n s1 ∧ TI n s2 ∧ c.right ∧ Below w0.heap.size w0 w ∧ ∃ X Y, TabP w g sb n c s1 X ∧ DTabP w g2 n b c (dOf n s2) Y ∧ (∀ y, X y → w0.heap.size ≤ y ∧ ¬ K1 y ∧ ¬ Y y) ∧ ∀ y, Y y → w0.heap.size ≤ y ∧ ¬ K2 y
/-- What is new. -/
def New2 (w w' : World) (K : Nat → Prop) : Nat → Prop := fun y => K y ∨ w.heap.size ≤ y ∧ y < w'.heap.size
section
variable {w0 w w' : World} {g sb n g2 : Nat} {b : Int} {c : TCfg} {s1 s2 s' : TSt} {K1 K2 K1' K2' F : Nat → Prop}
theorem TwoT.ti1 (h : TwoT w0 w g sb n g2 b c s1 s2 K1 K2) : TI n s1 := h.1
theorem TwoT.ti2 (h : TwoT w0 w g sb n g2 b c s1 s2 K1 K2) : TI n s2 := h.2.1
theorem TwoT.below (h : TwoT w0 w g sb n g2 b c s1 s2 K1 K2) : Below w0.heap.size w0 w := h.2.2.2.1
theorem TwoT.mono (h : TwoT w0 w g sb n g2 b c s1 s2 K1 K2) (h1 : ∀ y, K1' y → K1 y) (h2 : ∀ y, K2' y → K2 y) : TwoT w0 w g sb n g2 b c s1 s2 K1' K2' := by
  obtain ⟨a1, a2, a3, a4, X, Y, k1, k2, k3, k4⟩ := h
  exact ⟨a1, a2, a3, a4, X, Y, k1, k2, fun y hy => ⟨(k3 y hy).1, fun e => (k3 y hy).2.1 (h1 y e), (k3 y hy).2.2⟩, fun y hy => ⟨(k4 y hy).1, fun e => (k4 y hy).2 (h2 y e)⟩⟩
/-- A world that keeps both tables' blocks. -/
theorem TwoT.chg (h : TwoT w0 w g sb n g2 b c s1 s2 K1 K2) (k : Chg F w w') (h1 : ∀ y, F y → K1 y ∧ K2 y ∧ w0.heap.size ≤ y) : TwoT w0 w' g sb n g2 b c s1 s2 K1 K2 := by
  obtain ⟨a1, a2, a3, a4, X, Y, k1, k2, k3, k4⟩ := h
  exact ⟨a1, a2, a3, below_chg a4 k (fun y hy hx => by have := (h1 y hx).2.2; omega) a4.size, X, Y, k1.chg k (fun y hy hf => (k3 y hy).2.1 (h1 y hf).1), k2.chg k (fun y hy hf => (k4 y hy).2 (h1 y hf).2.1), k3, k4⟩
/-- What a call makes lies off both. -/
theorem TwoT.call (h : TwoT w0 w g sb n g2 b c s1 s2 K1 K2) (hb : Below w.heap.size w w') : TwoT w0 w' g sb n g2 b c s1 s2 (New2 w w' K1) (New2 w w' K2) := by
  obtain ⟨a1, a2, a3, a4, X, Y, k1, k2, k3, k4⟩ := h
  refine ⟨a1, a2, a3, below_chain hb a4, X, Y, k1.call hb, k2.call hb, fun y hy => ⟨(k3 y hy).1, fun e => ?_, (k3 y hy).2.2⟩, fun y hy => ⟨(k4 y hy).1, fun e => ?_⟩⟩
  · rcases e with e | e
    · exact (k3 y hy).2.1 e
    · have := k1.lt hy
      omega
  · rcases e with e | e
    · exact (k4 y hy).2 e
    · have := k2.lt hy
      omega
theorem twot_code {X Y : Nat → Prop} (a1 : TI n s') (a2 : TI n s2) (a3 : c.right) (a4 : Below w0.heap.size w0 w) (k2 : DTabP w g2 n b c (dOf n s2) Y) (k3 : ∀ y, X y → w0.heap.size ≤ y ∧ ¬ K1 y ∧ ¬ Y y) (k4 : ∀ y, Y y → w0.heap.size ≤ y ∧ ¬ K2 y) (hK : ∀ y, K1 y → y < w.heap.size) (t : TabTo w w' g sb n c s' X) :
    TwoT w0 w' g sb n g2 b c s' s2 K1 (New2 w w' K2) ∧ Chg (Nk w0 K1) w w' := by
  obtain ⟨X', m1, m2, m3⟩ := t
  have hz := a4.size
  refine ⟨⟨a1, a2, a3, below_chg a4 m2 (fun y hy hx => by have := (k3 y hx).1; omega) hz, X', Y, m1, k2.chg m2 (fun y hy hx => (k3 y hx).2.2 hy), fun y hy => ?_, fun y hy => ⟨(k4 y hy).1, fun e => ?_⟩⟩, m2.mono fun y _ hx => ⟨(k3 y hx).1, (k3 y hx).2.1⟩⟩
  · rcases m3 y hy with e | e
    · exact k3 y e
    · exact ⟨by omega, fun h => by have := hK y h; omega, fun h => by have := k2.lt h; omega⟩
  · rcases e with e | e
    · exact (k4 y hy).2 e
    · have := k2.lt hy
      omega
theorem twot_doc {X Y : Nat → Prop} (a1 : TI n s1) (a2 : TI n s') (a3 : c.right) (a4 : Below w0.heap.size w0 w) (k1 : TabP w g sb n c s1 X) (k3 : ∀ y, X y → w0.heap.size ≤ y ∧ ¬ K1 y ∧ ¬ Y y) (k4 : ∀ y, Y y → w0.heap.size ≤ y ∧ ¬ K2 y) (hK : ∀ y, K2 y → y < w.heap.size) (t : DTo w w' g2 n b c (dOf n s') Y) :
    TwoT w0 w' g sb n g2 b c s1 s' (New2 w w' K1) K2 ∧ Chg (Nk w0 K2) w w' := by
  obtain ⟨Y', m1, m2, m3⟩ := t
  have hz := a4.size
  refine ⟨⟨a1, a2, a3, below_chg a4 m2 (fun y hy hx => by have := (k4 y hx).1; omega) hz, X, Y', k1.chg m2 (fun y hy hx => (k3 y hy).2.2 hx), m1, fun y hy => ⟨(k3 y hy).1, fun e => ?_, fun e => ?_⟩, fun y hy => ?_⟩, m2.mono fun y _ hx => k4 y hx⟩
  · rcases e with e | e
    · exact (k3 y hy).2.1 e
    · have := k1.lt hy
      omega
  · rcases m3 y e with e | e
    · exact (k3 y hy).2.2 e
    · have := k1.lt hy
      omega
  · rcases m3 y hy with e | e
    · exact k4 y e
    · exact ⟨by omega, fun h => by have := hK y h; omega⟩
theorem twot_open (h : TwoT w0 w g sb n g2 b c s1 s2 K1 K2) (hK : ∀ y, K1 y → y < w.heap.size) (t : Tup) (bk fl : Int) :
    Calls Tryz.prog 13 #[.pointer (some ⟨g, 0, none⟩), t.val, .int .i64 bk, .int .i64 fl] w fun e w' => e = .returned (.tuple #[(openV c s1 t bk fl).val, .int .i64 (openE s1 t bk fl)]) ∧ TwoT w0 w' g sb n g2 b c (openS c n s1 t bk fl) s2 K1 (New2 w w' K2) ∧ Chg (Nk w0 K1) w w' := by
  obtain ⟨a1, a2, a3, a4, X, Y, k1, k2, k3, k4⟩ := h
  refine (tab_open k1 a1.sl (a1.mlen5 k1.rng.2.2) a3 t bk fl).mono ?_
  rintro e w' ⟨rfl, hT⟩
  exact ⟨rfl, twot_code (a1.open t bk fl) a2 a3 a4 k2 k3 k4 hK hT⟩
theorem twot_find (h : TwoT w0 w g sb n g2 b c s1 s2 K1 K2) (hK : ∀ y, K1 y → y < w.heap.size) (t : Tup) (i low bt : Int) :
    Calls Tryz.prog 16 #[.pointer (some ⟨g, 0, none⟩), t.val, .int .i64 i, .int .u64 low, .int .i64 bt] w fun e w' => e = .returned (.tuple #[(findV n s1 t i low bt).val, .bool (findOk n s1 t i low bt)]) ∧ TwoT w0 w' g sb n g2 b c (lookS n i s1) s2 K1 (New2 w w' K2) ∧ Chg (Nk w0 K1) w w' := by
  obtain ⟨a1, a2, a3, a4, X, Y, k1, k2, k3, k4⟩ := h
  refine (tab_find k1 t i low bt).mono ?_
  rintro e w' ⟨rfl, hT⟩
  exact ⟨rfl, twot_code (a1.look i) a2 a3 a4 k2 k3 k4 hK hT⟩
theorem twot_touch (h : TwoT w0 w g sb n g2 b c s1 s2 K1 K2) (hK : ∀ y, K1 y → y < w.heap.size) (i fl : Int) :
    Calls Tryz.prog 26 #[.pointer (some ⟨g, 0, none⟩), .int .i64 i, .int .i64 fl] w fun e w' => e = .returned (.tuple #[(touchV c n s1 i fl).val, .bool (closeOk n s1 i)]) ∧ TwoT w0 w' g sb n g2 b c (touchS c n s1 i fl) s2 K1 (New2 w w' K2) ∧ Chg (Nk w0 K1) w w' := by
  obtain ⟨a1, a2, a3, a4, X, Y, k1, k2, k3, k4⟩ := h
  refine (tab_touch k1 a1.sl (a1.mlen5 k1.rng.2.2) a3 i fl).mono ?_
  rintro e w' ⟨rfl, hT⟩
  exact ⟨rfl, twot_code (a1.touch i fl) a2 a3 a4 k2 k3 k4 hK hT⟩
theorem twot_close (h : TwoT w0 w g sb n g2 b c s1 s2 K1 K2) (hK : ∀ y, K1 y → y < w.heap.size) (i : Int) :
    Calls Tryz.prog 14 #[.pointer (some ⟨g, 0, none⟩), .int .i64 i] w fun e w' => e = .returned (.tuple #[(closeV n s1 i).val, .bool (closeOk n s1 i)]) ∧ TwoT w0 w' g sb n g2 b c (closeS n s1 i) s2 K1 (New2 w w' K2) ∧ Chg (Nk w0 K1) w w' := by
  obtain ⟨a1, a2, a3, a4, X, Y, k1, k2, k3, k4⟩ := h
  refine (tab_close k1 a1.sl i).mono ?_
  rintro e w' ⟨rfl, hT⟩
  exact ⟨rfl, twot_code (a1.close i) a2 a3 a4 k2 k3 k4 hK hT⟩
theorem twot_go (h : TwoT w0 w g sb n g2 b c s1 s2 K1 K2) (hK : ∀ y, K1 y → y < w.heap.size) (nw : Int) :
    Calls Tryz.prog 15 #[.pointer (some ⟨g, 0, none⟩), .int .i64 nw] w fun e w' => ∃ (B : Option Addr) (q : Nat) (S : List Int), e = .returned (.tuple #[.slice B S.length q, .int .i64 (goE s1.now nw)]) ∧ GoS c.G s1.now nw s1.M S ∧ OwnE w' w.heap.size B q (goEnts s1 S) ∧ TwoT w0 w' g sb n g2 b c (goTab n s1 nw S) s2 K1 (New2 w w' K2) ∧ Chg (Nk w0 K1) w w' := by
  obtain ⟨a1, a2, a3, a4, X, Y, k1, k2, k3, k4⟩ := h
  refine (tab_go k1 a1.sl a1.hasN nw).mono ?_
  rintro e w' ⟨B, q, S, rfl, hG, hO, hS, hT⟩
  exact ⟨B, q, S, rfl, hG, hO, twot_code (a1.go hG).1 a2 a3 a4 k2 k3 k4 hK hT⟩
theorem twot_drop (h : TwoT w0 w g sb n g2 b c s1 s2 K1 K2) (hK : ∀ y, K1 y → y < w.heap.size) (bk : Int) :
    Calls Tryz.prog 17 #[.pointer (some ⟨g, 0, none⟩), .int .i64 bk] w fun e w' => ∃ (A : Option Addr) (q : Nat), e = .returned (.slice A (entsOf s1.E (allL s1.E (fun x => x.bk == bk) n)).length q) ∧ OwnE w' w.heap.size A q (entsOf s1.E (allL s1.E (fun x => x.bk == bk) n)) ∧ TwoT w0 w' g sb n g2 b c (dropS n s1 (allL s1.E (fun x => x.bk == bk) n)) s2 K1 (New2 w w' K2) ∧ Chg (Nk w0 K1) w w' := by
  obtain ⟨a1, a2, a3, a4, X, Y, k1, k2, k3, k4⟩ := h
  refine (tab_drop k1 a1.sl bk).mono ?_
  rintro e w' ⟨A, q, rfl, hO, hT⟩
  exact ⟨A, q, rfl, hO, twot_code (a1.drop _).1 a2 a3 a4 k2 k3 k4 hK hT⟩
theorem twot_dopen (h : TwoT w0 w g sb n g2 b c s1 s2 K1 K2) (hK : ∀ y, K2 y → y < w.heap.size) (t : Tup) (bk fl : Int) :
    Calls Tryz.prog 24 #[.pointer (some ⟨g2, 0, none⟩), t.val, .int .i64 bk, .int .i64 fl] w fun e w' => e = .returned (.tuple #[(openV c s2 t bk fl).val, .int .i64 (openE s2 t bk fl)]) ∧ TwoT w0 w' g sb n g2 b c s1 (openS c n s2 t bk fl) (New2 w w' K1) K2 ∧ Chg (Nk w0 K2) w w' := by
  obtain ⟨a1, a2, a3, a4, X, Y, k1, k2, k3, k4⟩ := h
  refine (ddtab_open k2 a2 a3 t bk fl).mono ?_
  rintro e w' ⟨rfl, hT⟩
  exact ⟨rfl, twot_doc a1 (a2.open t bk fl) a3 a4 k1 k3 k4 hK hT⟩
theorem twot_dfind (h : TwoT w0 w g sb n g2 b c s1 s2 K1 K2) (hK : ∀ y, K2 y → y < w.heap.size) (t : Tup) (i low bt : Int) :
    Calls Tryz.prog 25 #[.pointer (some ⟨g2, 0, none⟩), t.val, .int .i64 i, .int .u64 low, .int .i64 bt] w fun e w' => e = .returned (.tuple #[(findV n s2 t i low bt).val, .bool (findOk n s2 t i low bt)]) ∧ TwoT w0 w' g sb n g2 b c s1 (lookS n i s2) (New2 w w' K1) K2 ∧ Chg (Nk w0 K2) w w' := by
  obtain ⟨a1, a2, a3, a4, X, Y, k1, k2, k3, k4⟩ := h
  refine (ddtab_find k2 a2 t i low bt).mono ?_
  rintro e w' ⟨rfl, hT⟩
  exact ⟨rfl, twot_doc a1 (a2.look i) a3 a4 k1 k3 k4 hK hT⟩
theorem twot_dtouch (h : TwoT w0 w g sb n g2 b c s1 s2 K1 K2) (hK : ∀ y, K2 y → y < w.heap.size) (i fl : Int) :
    Calls Tryz.prog 27 #[.pointer (some ⟨g2, 0, none⟩), .int .i64 i, .int .i64 fl] w fun e w' => e = .returned (.tuple #[(touchV c n s2 i fl).val, .bool (closeOk n s2 i)]) ∧ TwoT w0 w' g sb n g2 b c s1 (touchS c n s2 i fl) (New2 w w' K1) K2 ∧ Chg (Nk w0 K2) w w' := by
  obtain ⟨a1, a2, a3, a4, X, Y, k1, k2, k3, k4⟩ := h
  refine (ddtab_touch k2 a2 a3 i fl).mono ?_
  rintro e w' ⟨rfl, hT⟩
  exact ⟨rfl, twot_doc a1 (a2.touch i fl) a3 a4 k1 k3 k4 hK hT⟩
theorem twot_dclose (h : TwoT w0 w g sb n g2 b c s1 s2 K1 K2) (hK : ∀ y, K2 y → y < w.heap.size) (i : Int) :
    Calls Tryz.prog 28 #[.pointer (some ⟨g2, 0, none⟩), .int .i64 i] w fun e w' => e = .returned (.tuple #[(closeV n s2 i).val, .bool (closeOk n s2 i)]) ∧ TwoT w0 w' g sb n g2 b c s1 (closeS n s2 i) (New2 w w' K1) K2 ∧ Chg (Nk w0 K2) w w' := by
  obtain ⟨a1, a2, a3, a4, X, Y, k1, k2, k3, k4⟩ := h
  refine (ddtab_close k2 a2 i).mono ?_
  rintro e w' ⟨rfl, hT⟩
  exact ⟨rfl, twot_doc a1 (a2.close i) a3 a4 k1 k3 k4 hK hT⟩
theorem twot_dgo (h : TwoT w0 w g sb n g2 b c s1 s2 K1 K2) (hK : ∀ y, K2 y → y < w.heap.size) (nw : Int) {S : List Int} (hS : GoS c.G s2.now nw s2.M S) :
    Calls Tryz.prog 29 #[.pointer (some ⟨g2, 0, none⟩), .int .i64 nw] w fun e w' => ∃ (B : Option Addr) (q : Nat), e = .returned (.tuple #[.slice B S.length q, .int .i64 (goE s2.now nw)]) ∧ OwnE w' w.heap.size B q (goEnts s2 S) ∧ TwoT w0 w' g sb n g2 b c s1 (goTab n s2 nw S) (New2 w w' K1) K2 ∧ Chg (Nk w0 K2) w w' := by
  obtain ⟨a1, a2, a3, a4, X, Y, k1, k2, k3, k4⟩ := h
  refine (ddtab_go k2 a2 nw hS).mono ?_
  rintro e w' ⟨B, q, rfl, hO, hT⟩
  exact ⟨B, q, rfl, hO, twot_doc a1 (a2.go hS).1 a3 a4 k1 k3 k4 hK hT⟩
theorem twot_ddrop (h : TwoT w0 w g sb n g2 b c s1 s2 K1 K2) (hK : ∀ y, K2 y → y < w.heap.size) (bk : Int) :
    Calls Tryz.prog 30 #[.pointer (some ⟨g2, 0, none⟩), .int .i64 bk] w fun e w' => ∃ (A : Option Addr) (q : Nat), e = .returned (.slice A (entsOf s2.E (allL s2.E (fun x => x.bk == bk) n)).length q) ∧ OwnE w' w.heap.size A q (entsOf s2.E (allL s2.E (fun x => x.bk == bk) n)) ∧ TwoT w0 w' g sb n g2 b c s1 (dropS n s2 (allL s2.E (fun x => x.bk == bk) n)) (New2 w w' K1) K2 ∧ Chg (Nk w0 K2) w w' := by
  obtain ⟨a1, a2, a3, a4, X, Y, k1, k2, k3, k4⟩ := h
  refine (ddtab_drop k2 a2 bk).mono ?_
  rintro e w' ⟨A, q, rfl, hO, hT⟩
  exact ⟨A, q, rfl, hO, twot_doc a1 (a2.drop _).1 a3 a4 k1 k3 k4 hK hT⟩
end
end Go.Proofs.YtmkknjhalcocmaaGreat
