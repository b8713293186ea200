/- table: Open. table: Find. table: Go. table: all, Live, Drop. table: Drop. table: New. table: what stays true of a table, in plain words. table: a table in a law's world: what is true of it, and the blocks that are not its own; tables that nobody made. table: tables that nobody made. -/
import Derived.Test.YtmkknjhalcocmaaJ17
import Derived.Laws.StructEq
import Derived.Test.YtmkknjhalcocmaaJ10
import Derived.Deep.RegionWith
namespace Go.Proofs.Ytmkknjhalcocmaa
open Go Go.RowKit Go.Deep Go.Maps Go.ChangeMaps

section
variable {w w1 w2 w3 : World} {g sb n r : Nat} {c : TCfg} {s s' : TSt} {X F : Nat → Prop}
@[reducible] def openW (w : World) (sb i : Nat) (t : Tup) (bk st : Int) : World := ((((((((((((w.setCell ⟨sb, i * 15, none⟩ (.int .i64 t.p)).setCell ⟨sb, i * 15 + 1, none⟩ (.bool t.v)).setCell ⟨sb, i * 15 + 2, none⟩ (.int .u64 ((t.hi : Nat) : Int))).setCell ⟨sb, i * 15 + 3, none⟩ (.int .u64 ((t.lo : Nat) : Int))).setCell ⟨sb, i * 15 + 4, none⟩ (.bool t.v')).setCell ⟨sb, i * 15 + 5, none⟩ (.int .u64 ((t.hi' : Nat) : Int))).setCell ⟨sb, i * 15 + 6, none⟩ (.int .u64 ((t.lo' : Nat) : Int))).setCell ⟨sb, i * 15 + 7, none⟩ (.int .i64 t.sp)).setCell ⟨sb, i * 15 + 8, none⟩ (.int .i64 t.dp)).setCell ⟨sb, i * 15 + 9, none⟩ (.int .i64 bk)).setCell ⟨sb, i * 15 + 10, none⟩ (.int .i64 st)).setCell ⟨sb, i * 15 + 14, none⟩ (.bool true))
theorem Slots.setOpen {E : Nat → Slt} (h : Slots w sb n E) {i : Nat} (hi : i < n) (t : Tup) (bk st : Int) : Slots (openW w sb i t bk st) sb n (updE E i { E i with t := t, bk := bk, st := st, used := true }) := by
  have h0 := h.set hi 0 (by omega) (.int .i64 t.p) ⟨⟨t.p, (E i).t.v, (E i).t.hi, (E i).t.lo, (E i).t.v', (E i).t.hi', (E i).t.lo', (E i).t.sp, (E i).t.dp⟩, (E i).bk, (E i).st, (E i).sl, (E i).gen, (E i).due, (E i).used⟩ rfl
  have h1 := h0.set hi 1 (by omega) (.bool t.v) ⟨⟨t.p, t.v, (E i).t.hi, (E i).t.lo, (E i).t.v', (E i).t.hi', (E i).t.lo', (E i).t.sp, (E i).t.dp⟩, (E i).bk, (E i).st, (E i).sl, (E i).gen, (E i).due, (E i).used⟩ (by simp only [updE_self]; rfl)
  rw [updE_updE] at h1
  have h2 := h1.set hi 2 (by omega) (.int .u64 ((t.hi : Nat) : Int)) ⟨⟨t.p, t.v, t.hi, (E i).t.lo, (E i).t.v', (E i).t.hi', (E i).t.lo', (E i).t.sp, (E i).t.dp⟩, (E i).bk, (E i).st, (E i).sl, (E i).gen, (E i).due, (E i).used⟩ (by simp only [updE_self]; rfl)
  rw [updE_updE] at h2
  have h3 := h2.set hi 3 (by omega) (.int .u64 ((t.lo : Nat) : Int)) ⟨⟨t.p, t.v, t.hi, t.lo, (E i).t.v', (E i).t.hi', (E i).t.lo', (E i).t.sp, (E i).t.dp⟩, (E i).bk, (E i).st, (E i).sl, (E i).gen, (E i).due, (E i).used⟩ (by simp only [updE_self]; rfl)
  rw [updE_updE] at h3
  have h4 := h3.set hi 4 (by omega) (.bool t.v') ⟨⟨t.p, t.v, t.hi, t.lo, t.v', (E i).t.hi', (E i).t.lo', (E i).t.sp, (E i).t.dp⟩, (E i).bk, (E i).st, (E i).sl, (E i).gen, (E i).due, (E i).used⟩ (by simp only [updE_self]; rfl)
  rw [updE_updE] at h4
  have h5 := h4.set hi 5 (by omega) (.int .u64 ((t.hi' : Nat) : Int)) ⟨⟨t.p, t.v, t.hi, t.lo, t.v', t.hi', (E i).t.lo', (E i).t.sp, (E i).t.dp⟩, (E i).bk, (E i).st, (E i).sl, (E i).gen, (E i).due, (E i).used⟩ (by simp only [updE_self]; rfl)
  rw [updE_updE] at h5
  have h6 := h5.set hi 6 (by omega) (.int .u64 ((t.lo' : Nat) : Int)) ⟨⟨t.p, t.v, t.hi, t.lo, t.v', t.hi', t.lo', (E i).t.sp, (E i).t.dp⟩, (E i).bk, (E i).st, (E i).sl, (E i).gen, (E i).due, (E i).used⟩ (by simp only [updE_self]; rfl)
  rw [updE_updE] at h6
  have h7 := h6.set hi 7 (by omega) (.int .i64 t.sp) ⟨⟨t.p, t.v, t.hi, t.lo, t.v', t.hi', t.lo', t.sp, (E i).t.dp⟩, (E i).bk, (E i).st, (E i).sl, (E i).gen, (E i).due, (E i).used⟩ (by simp only [updE_self]; rfl)
  rw [updE_updE] at h7
  have h8 := h7.set hi 8 (by omega) (.int .i64 t.dp) ⟨⟨t.p, t.v, t.hi, t.lo, t.v', t.hi', t.lo', t.sp, t.dp⟩, (E i).bk, (E i).st, (E i).sl, (E i).gen, (E i).due, (E i).used⟩ (by simp only [updE_self]; rfl)
  rw [updE_updE] at h8
  have h9 := h8.set hi 9 (by omega) (.int .i64 bk) ⟨⟨t.p, t.v, t.hi, t.lo, t.v', t.hi', t.lo', t.sp, t.dp⟩, bk, (E i).st, (E i).sl, (E i).gen, (E i).due, (E i).used⟩ (by simp only [updE_self]; rfl)
  rw [updE_updE] at h9
  have h10 := h9.set hi 10 (by omega) (.int .i64 st) ⟨⟨t.p, t.v, t.hi, t.lo, t.v', t.hi', t.lo', t.sp, t.dp⟩, bk, st, (E i).sl, (E i).gen, (E i).due, (E i).used⟩ (by simp only [updE_self]; rfl)
  rw [updE_updE] at h10
  have h11 := h10.set hi 14 (by omega) (.bool true) ⟨⟨t.p, t.v, t.hi, t.lo, t.v', t.hi', t.lo', t.sp, t.dp⟩, bk, st, (E i).sl, (E i).gen, (E i).due, true⟩ (by simp only [updE_self]; rfl)
  rw [updE_updE] at h11
  exact h11
theorem TabP.setOpen (h : TabP w g sb n c s X) {i : Nat} (hi : i < n) (t : Tup) (bk st : Int) : TabP (openW w sb i t bk st) g sb n c { s with E := updE s.E i { s.E i with t := t, bk := bk, st := st, used := true } } X ∧ Chg X w (openW w sb i t bk st) := by
  have hX := h.sbX
  have k : Chg (· = sb) w (openW w sb i t bk st) := Chg.setCell (F := (· = sb)) (p := ⟨sb, i * 15 + 14, none⟩) (Chg.setCell (F := (· = sb)) (p := ⟨sb, i * 15 + 10, none⟩) (Chg.setCell (F := (· = sb)) (p := ⟨sb, i * 15 + 9, none⟩) (Chg.setCell (F := (· = sb)) (p := ⟨sb, i * 15 + 8, none⟩) (Chg.setCell (F := (· = sb)) (p := ⟨sb, i * 15 + 7, none⟩) (Chg.setCell (F := (· = sb)) (p := ⟨sb, i * 15 + 6, none⟩) (Chg.setCell (F := (· = sb)) (p := ⟨sb, i * 15 + 5, none⟩) (Chg.setCell (F := (· = sb)) (p := ⟨sb, i * 15 + 4, none⟩) (Chg.setCell (F := (· = sb)) (p := ⟨sb, i * 15 + 3, none⟩) (Chg.setCell (F := (· = sb)) (p := ⟨sb, i * 15 + 2, none⟩) (Chg.setCell (F := (· = sb)) (p := ⟨sb, i * 15 + 1, none⟩) (Chg.setCell (F := (· = sb)) (p := ⟨sb, i * 15, none⟩) (Chg.refl _ _) (fun _ => rfl) _) (fun _ => rfl) _) (fun _ => rfl) _) (fun _ => rfl) _) (fun _ => rfl) _) (fun _ => rfl) _) (fun _ => rfl) _) (fun _ => rfl) _) (fun _ => rfl) _) (fun _ => rfl) _) (fun _ => rfl) _) (fun _ => rfl) _
  obtain ⟨fs, wg, F', Y, h1, h2, h3, h4, h5, h6, h7, h8, h9⟩ := h
  exact ⟨⟨fs, wg, F', Y, h1.chg k h8, h2.chg k (fun b hb e => (h7 b (.inl hb)).2 e), h3.chg k (fun b hb e => (h7 b (.inr hb)).2 e), h4.setOpen hi t bk st, h5, h6, h7, h8, h9⟩, k.mono fun b _ e => by have e2 : b = sb := e; rw [e2]; exact hX⟩
theorem TabP.freeR (h : TabP w g sb n c s X) : ∀ x ∈ s.L, 0 ≤ x ∧ x < n := by
  obtain ⟨fs, wg, F', Y, h1, ⟨vf, gi, _, _, _, _, _, h6, _⟩, _⟩ := h
  exact h6
theorem TabTo.after {X3 : Nat → Prop} (k : Chg X w w1) (hX : ∀ b, X3 b → X b ∨ w.heap.size ≤ b) (t : TabTo w1 w2 g sb n c s X3) : TabTo w w2 g sb n c s X := by
  obtain ⟨X2, k1, k2, k3⟩ := t
  have hz := k.size
  exact ⟨X2, k1, k.trans (G := X3) k2 (fun b hb hx => (hX b hx).elim id fun h => absurd h (by omega)), fun b hx => by
    rcases k3 b hx with h | h
    · exact hX b h
    · exact .inr (by omega)⟩
/-- May a connection be opened so? -/
def openOk (t : Tup) (bk fl : Int) : Bool := tupOk t && decide (0 ≤ bk ∧ bk ≤ 65535) && !(beginS t.p fl == 0)
def openE (s : TSt) (t : Tup) (bk fl : Int) : Int := if openOk t bk fl then (if s.L.isEmpty then 9 else 0) else 1
def openX (x : Slt) (t : Tup) (bk fl : Int) : Slt := { x with t := t, bk := bk, st := beginS t.p fl, used := true }
def openS1 (n : Nat) (s : TSt) (i : Int) (l : List Int) (t : Tup) (bk fl : Int) : TSt := { lookS n i { s with L := l } with E := updE s.E i.toNat (openX (s.E i.toNat) t bk fl) }
def openS (c : TCfg) (n : Nat) (s : TSt) (t : Tup) (bk fl : Int) : TSt :=
  if openOk t bk fl then (match s.L with | [] => s | i :: l => awaitS c (openS1 n s i l t bk fl) i.toNat) else s
def openV (c : TCfg) (s : TSt) (t : Tup) (bk fl : Int) : Slt :=
  if openOk t bk fl then (match s.L with | [] => slt0 | i :: _ => { openX (s.E i.toNat) t bk fl with due := dueT c s.now (beginS t.p fl) }) else slt0
set_option maxRecDepth 100000 in
set_option maxHeartbeats 4000000 in
theorem tab_open (h : TabP w g sb n c s X) (hsl : ∀ k : Nat, k < n → (s.E k).sl = k) (hM : s.M.length ≤ 100000) (hI : c.right) (t : Tup) (bk fl : Int) :
    Calls Try.prog 11 #[.pointer (some ⟨g, 0, none⟩), t.val, .int .i64 bk, .int .i64 fl] w fun e w' => e = .returned (.tuple #[(openV c s t bk fl).val, .int .i64 (openE s t bk fl)]) ∧ TabTo w w' g sb n c (openS c n s t bk fl) X := by
  have hXlt : ∀ b, X b → b < w.heap.size := fun b hb => h.lt hb
  have hfr := h.freeR
  have P0 := Blk.new w 39 t.cells.toArray
  have hb0 : Below w.heap.size w (w.alloc (.cells t.cells.toArray 39)) := below_alloc (Below.refl _ _) _
  have B1 := Blk.new (w.alloc (.cells t.cells.toArray 39)) 43 slt0.entA
  have hb1 : Below w.heap.size w ((w.alloc (.cells t.cells.toArray 39)).alloc (.cells slt0.entA 43)) := below_alloc hb0 _
  have P1 := P0.alloc (.cells slt0.entA 43)
  have h1 := h.call hb1
  have hzz := B1.lt
  rw [World.size_alloc] at B1 hzz
  clear h hb0 P0
  replace hI := Lib.hid hI
  replace B1 := Lib.hid B1
  replace hsl := Lib.hid hsl
  replace hXlt := Lib.hid hXlt
  replace hfr := Lib.hid hfr
  replace h1 := Lib.hid h1
  go_enter Try.func11, Try.ntmps11
  go_upto_region 1 with fail
  change Code.wp _ _ _ _ ((w.alloc (.cells t.cells.toArray 39)).alloc (.cells slt0.entA 43))
  obtain ⟨r, hr⟩ : ∃ r, w.heap.size + 1 = r := ⟨_, rfl⟩
  obtain ⟨p, hp⟩ : ∃ p, w.heap.size = p := ⟨_, rfl⟩
  rw [hr] at B1 hzz
  rw [hp] at P1
  generalize (w.alloc (.cells t.cells.toArray 39)).alloc (.cells slt0.entA 43) = w1 at *
  try rw [hr]
  try rw [hp]
  have BG := Lib.hid fun W => begin_any t.p fl W
  have GV := Lib.hid (tab_given h1.out)
  have TR := Lib.hid (tuple_right t w1)
  have hpw : p < w1.heap.size := P1.lt
  have p0 : w1.cell? ⟨p, 0, none⟩ = some (.int .i64 t.p) := P1.cell 0
  have p1 : w1.cell? ⟨p, 1, none⟩ = some (.bool t.v) := P1.cell 1
  have p2 : w1.cell? ⟨p, 2, none⟩ = some (.int .u64 t.hi) := P1.cell 2
  have p3 : w1.cell? ⟨p, 3, none⟩ = some (.int .u64 t.lo) := P1.cell 3
  have p4 : w1.cell? ⟨p, 4, none⟩ = some (.bool t.v') := P1.cell 4
  have p5 : w1.cell? ⟨p, 5, none⟩ = some (.int .u64 t.hi') := P1.cell 5
  have p6 : w1.cell? ⟨p, 6, none⟩ = some (.int .u64 t.lo') := P1.cell 6
  have p7 : w1.cell? ⟨p, 7, none⟩ = some (.int .i64 t.sp) := P1.cell 7
  have p8 : w1.cell? ⟨p, 8, none⟩ = some (.int .i64 t.dp) := P1.cell 8
  obtain ⟨st, hst⟩ : ∃ st, beginS t.p fl = st := ⟨_, rfl⟩
  obtain ⟨tk, htk⟩ : ∃ tk, tupOk t = tk := ⟨_, rfl⟩
  rw [hst] at BG
  rw [htk] at TR
  by_cases hok : openOk t bk fl = true
  · have ho2 := hok
    unfold openOk at ho2
    rw [hst, htk] at ho2
    simp only [Bool.and_eq_true, decide_eq_true_eq, Bool.not_eq_true'] at ho2
    obtain ⟨⟨rfl, hbk⟩, hst0⟩ := ho2
    have x1 : decide (bk < 0) = false := by simp; omega
    have x2 : decide (65535 < bk) = false := by simp; omega
    go_upto_region 4 with (first
    | (go_at_call 29; (with_reducible refine (BG.out _).mono ?_); rintro e w8 ⟨rfl, rfl⟩)
    | (go_at_call 28; (with_reducible refine GV.out.mono ?_); rintro e w8 ⟨rfl, rfl⟩)
    | (go_at_call 30; (with_reducible refine TR.out.mono ?_); rintro e w2 ⟨rfl, hb2⟩))
    have hbX2 : Chg X w1 w2 := Chg.of_below hb2
    have h2 := h1.out.call hb2
    have B2 := B1.out.call hb2
    have P2 := P1.call hb2
    have hzz2 := hb2.size
    clear BG GV TR p0 p1 p2 p3 p4 p5 p6 p7 p8 x1 x2 hb2
    obtain ⟨wg, -, fs, F2, Y2, c4, hP, -, -, hFn, -, hput⟩ := h2.wheel
    have PO := pop_any _ _ _ _ _ hP
    clear hP
    cases hL : s.L with
    | nil =>
      rw [hL] at PO
      replace PO := Lib.hid PO
      replace hput := Lib.hid hput
      go_upto_region 5 with (go_at_call 31; (with_reducible refine PO.out.mono ?_); rintro e w3 ⟨rfl, hP3, hcF⟩)
      have hT3 : TabTo w2 w3 g sb n c { s with L := [] } X := hput.out _ _ _ hP3 hcF (fun b hb => .inl hb)
      have hc3 : Chg X w2 w3 := by obtain ⟨_, _, h, _⟩ := hT3; exact h
      have B3 := B2.chg hc3 (fun e => by have := hXlt.out _ e; omega)
      have eS : ({ s with L := [] } : TSt) = s := by rw [← hL]
      rw [eS] at hT3
      have hO : openE s t bk fl = 9 := by unfold openE; rw [hok, hL]; rfl
      have hV : openV c s t bk fl = slt0 := by unfold openV; rw [hok, hL]; rfl
      have hS : openS c n s t bk fl = s := by unfold openS; rw [hok, hL]; rfl
      obtain ⟨r0, r1, r2, r3, r4, r5, r6, r7, r8, r9, r10, r11, r12, r13, rf⟩ := ent_blk B3
      replace hT3 := Lib.hid hT3
      replace B3 := Lib.hid B3
      clear hput PO hP3 hcF c4 B2
      go_wp2_with fail
      change bodyPost _ _ _ _ _ (setEnt w3 r slt0)
      obtain ⟨B6, hc6⟩ := setEnt_blk B3.out slt0
      have hT6 := TabTo.fin hXlt.out hb1 (hT3.out.chgX hbX2) hc6 (by omega) (by omega)
      generalize setEnt w3 r slt0 = w6 at *
      clear r0 r1 r2 r3 r4 r5 r6 r7 r8 r9 r10 r11 r12 r13 rf
      obtain ⟨r0, r1, r2, r3, r4, r5, r6, r7, r8, r9, r10, r11, r12, r13, -⟩ := ent_blk B6
      clear B6 hc6
      replace hT6 := Lib.hid hT6
      replace hS := Lib.hid hS
      replace hV := Lib.hid hV
      replace hO := Lib.hid hO
      refine bodyPost_ret (v := .tuple #[(slt0).val, .int .i64 9]) (by simp [results, Try.results11, go_sem, r0, r1, r2, r3, r4, r5, r6, r7, r8, r9, r10, r11, r12, r13]) rfl ?_
      exact ⟨by rw [hV.out, hO.out], by rw [hS.out]; exact hT6.out⟩
    | cons i0 l =>
      rw [hL] at PO
      have hi0 := hfr.out i0 (by rw [hL]; exact List.mem_cons_self)
      obtain ⟨k, rfl⟩ : ∃ k : Nat, i0 = (k : Int) := ⟨i0.toNat, by omega⟩
      have hk : k < n := by omega
      replace PO := Lib.hid PO
      replace hput := Lib.hid hput
      go_upto_region 5 with (go_at_call 31; (with_reducible refine PO.out.mono ?_); rintro e w3 ⟨rfl, hP3, hcF⟩)
      have hT3 : TabTo w2 w3 g sb n c { s with L := l } X := hput.out _ _ _ hP3 hcF (fun b hb => .inl hb)
      obtain ⟨X3, h3, hc3, hX3⟩ := hT3
      have hrp : ∀ b, X3 b → b ≠ r ∧ b ≠ p := fun b hb => by
        rcases hX3 b hb with h | h
        · have := hXlt.out b h
          omega
        · omega
      have B3 := B2.chg hc3 (fun e => by have := hXlt.out _ e; omega)
      have P3 := P2.chg hc3 (fun e => by have := hXlt.out _ e; omega)
      clear hput PO hP3 hcF c4 B2 P2 h2
      have LK := Lib.hid (tab_look h3 k)
      have hi : lookOk n k = true := by unfold lookOk; simpa using hk
      rw [hi, if_pos rfl, Int.toNat_natCast] at LK
      go_upto_region 8 with (go_at_call 32; (with_reducible refine LK.out.mono ?_); rintro e w4 ⟨rfl, h4, hc4⟩)
      have hc4X : Chg X3 w3 w4 := hc4.mono fun b _ e => by have e2 : b = g := e; rw [e2]; exact h3.gX
      have B4 := B3.chg hc4X (fun e => (hrp _ e).1 rfl)
      have P4 := P3.chg hc4X (fun e => (hrp _ e).2 rfl)
      have p0 : w4.cell? ⟨p, 0, none⟩ = some (.int .i64 t.p) := P4.cell 0
      have p1 : w4.cell? ⟨p, 1, none⟩ = some (.bool t.v) := P4.cell 1
      have p2 : w4.cell? ⟨p, 2, none⟩ = some (.int .u64 t.hi) := P4.cell 2
      have p3 : w4.cell? ⟨p, 3, none⟩ = some (.int .u64 t.lo) := P4.cell 3
      have p4 : w4.cell? ⟨p, 4, none⟩ = some (.bool t.v') := P4.cell 4
      have p5 : w4.cell? ⟨p, 5, none⟩ = some (.int .u64 t.hi') := P4.cell 5
      have p6 : w4.cell? ⟨p, 6, none⟩ = some (.int .u64 t.lo') := P4.cell 6
      have p7 : w4.cell? ⟨p, 7, none⟩ = some (.int .i64 t.sp) := P4.cell 7
      have p8 : w4.cell? ⟨p, 8, none⟩ = some (.int .i64 t.dp) := P4.cell 8
      have c0 := (h4.slot hk 0 (by omega)).trans rfl
      have f0 := h4.slotf (k * 15 + 0)
      have c1 := (h4.slot hk 1 (by omega)).trans rfl
      have f1 := h4.slotf (k * 15 + 1)
      have c2 := (h4.slot hk 2 (by omega)).trans rfl
      have f2 := h4.slotf (k * 15 + 2)
      have c3 := (h4.slot hk 3 (by omega)).trans rfl
      have f3 := h4.slotf (k * 15 + 3)
      have c4 := (h4.slot hk 4 (by omega)).trans rfl
      have f4 := h4.slotf (k * 15 + 4)
      have c5 := (h4.slot hk 5 (by omega)).trans rfl
      have f5 := h4.slotf (k * 15 + 5)
      have c6 := (h4.slot hk 6 (by omega)).trans rfl
      have f6 := h4.slotf (k * 15 + 6)
      have c7 := (h4.slot hk 7 (by omega)).trans rfl
      have f7 := h4.slotf (k * 15 + 7)
      have c8 := (h4.slot hk 8 (by omega)).trans rfl
      have f8 := h4.slotf (k * 15 + 8)
      have c9 := (h4.slot hk 9 (by omega)).trans rfl
      have f9 := h4.slotf (k * 15 + 9)
      have c10 := (h4.slot hk 10 (by omega)).trans rfl
      have f10 := h4.slotf (k * 15 + 10)
      have c14 := (h4.slot hk 14 (by omega)).trans rfl
      have f14 := h4.slotf (k * 15 + 14)
      simp at f0 c0 c1 c2 c3 c4 c5 c6 c7 c8 c9 c10 c14
      obtain ⟨h5, hc5⟩ := h4.setOpen hk t bk st
      clear LK hc4 B3 P3
      replace h4 := Lib.hid h4
      replace h5 := Lib.hid h5
      replace B4 := Lib.hid B4
      replace P4 := Lib.hid P4
      go_upto_region 9 with fail
      change Code.wp _ _ _ _ (openW w4 sb k t bk st)
      generalize openW w4 sb k t bk st = w5 at *
      have B5 := B4.out.chg hc5 (fun e => (hrp _ e).1 rfl)
      clear p0 p1 p2 p3 p4 p5 p6 p7 p8 c0 c1 c2 c3 c4 c5 c6 c7 c8 c9 c10 c14 f0 f1 f2 f3 f4 f5 f6 f7 f8 f9 f10 f14 P4 B4 h4
      have e1 : ({ lookS n k { s with L := l } with E := updE s.E k (openX (s.E k) t bk fl) } : TSt) = openS1 n s k l t bk fl := by unfold openS1; rw [Int.toNat_natCast]
      have h5 : TabP w5 g sb n c (openS1 n s k l t bk fl) X3 := by
        have h6 := h5.out
        rw [lookS_E] at h6
        rw [← e1]
        unfold openX
        rw [hst]
        exact h6
      have eE : (openS1 n s k l t bk fl).E k = openX (s.E k) t bk fl := by unfold openS1; rw [Int.toNat_natCast]; exact updE_self _ _ _
      have eM : (openS1 n s k l t bk fl).M = s.M := lookS_M n k _
      have eN : (openS1 n s k l t bk fl).now = s.now := lookS_now n k _
      obtain ⟨x, hx⟩ : ∃ x : Slt, x = { openX (s.E k) t bk fl with due := dueT c s.now (beginS t.p fl) } := ⟨_, rfl⟩
      have hO : openE s t bk fl = 0 := by unfold openE; rw [hok, hL]; rfl
      have hV : openV c s t bk fl = x := by unfold openV; rw [hok, if_pos rfl, hL]; dsimp only; rw [Int.toNat_natCast, hx]
      have hS : openS c n s t bk fl = awaitS c (openS1 n s k l t bk fl) k := by unfold openS; rw [hok, if_pos rfl, hL]; dsimp only; rw [Int.toNat_natCast]
      have hxE : (awaitS c (openS1 n s k l t bk fl) k).E k = x := by
        show updE _ k _ k = x
        rw [updE_self, eE, eN, hx]
        rfl
      have AW := Lib.hid (tab_await2 h5 k hk (by rw [eE]; exact hsl.out k hk) (by rw [eM]; exact hM) hI.out)
      replace hx := Lib.hid hx
      go_upto_region 10 with (go_at_call 33; (with_reducible refine AW.out.mono ?_); rintro e w6 ⟨rfl, hT6⟩)
      have hc6 : Chg X3 w5 w6 := by obtain ⟨_, _, h, _⟩ := hT6; exact h
      have B6 := B5.chg hc6 (fun e => (hrp _ e).1 rfl)
      obtain ⟨X6, h6', -, -⟩ := id hT6
      have hC := fun j hj => h6'.slot hk j hj
      rw [hxE] at hC
      have c0 : w6.cell? ⟨sb, k * 15, none⟩ = some (.int .i64 x.t.p) := hC 0 (by omega)
      have c1 : w6.cell? ⟨sb, k * 15 + 1, none⟩ = some (.bool x.t.v) := hC 1 (by omega)
      have c2 : w6.cell? ⟨sb, k * 15 + 2, none⟩ = some (.int .u64 x.t.hi) := hC 2 (by omega)
      have c3 : w6.cell? ⟨sb, k * 15 + 3, none⟩ = some (.int .u64 x.t.lo) := hC 3 (by omega)
      have c4 : w6.cell? ⟨sb, k * 15 + 4, none⟩ = some (.bool x.t.v') := hC 4 (by omega)
      have c5 : w6.cell? ⟨sb, k * 15 + 5, none⟩ = some (.int .u64 x.t.hi') := hC 5 (by omega)
      have c6 : w6.cell? ⟨sb, k * 15 + 6, none⟩ = some (.int .u64 x.t.lo') := hC 6 (by omega)
      have c7 : w6.cell? ⟨sb, k * 15 + 7, none⟩ = some (.int .i64 x.t.sp) := hC 7 (by omega)
      have c8 : w6.cell? ⟨sb, k * 15 + 8, none⟩ = some (.int .i64 x.t.dp) := hC 8 (by omega)
      have c9 : w6.cell? ⟨sb, k * 15 + 9, none⟩ = some (.int .i64 x.bk) := hC 9 (by omega)
      have c10 : w6.cell? ⟨sb, k * 15 + 10, none⟩ = some (.int .i64 x.st) := hC 10 (by omega)
      have c11 : w6.cell? ⟨sb, k * 15 + 11, none⟩ = some (.int .i64 x.sl) := hC 11 (by omega)
      have c12 : w6.cell? ⟨sb, k * 15 + 12, none⟩ = some (.int .u64 x.gen) := hC 12 (by omega)
      have c13 : w6.cell? ⟨sb, k * 15 + 13, none⟩ = some (.int .i64 x.due) := hC 13 (by omega)
      obtain ⟨r0, r1, r2, r3, r4, r5, r6, r7, r8, r9, r10, r11, r12, r13, rf⟩ := ent_blk B6
      have hTT : TabTo w1 w6 g sb n c (awaitS c (openS1 n s k l t bk fl) k) X := (TabTo.after hc3 hX3 (hT6.chgX (hc4X.trans (G := X3) hc5 (fun _ _ h => h)))).chgX hbX2
      replace hTT := Lib.hid hTT
      have B7 := Lib.hid B6
      clear hC h6' hT6 B6 hc6 hc5 hc4X hc3 hX3 B5 AW h5 e1 eE eM eN
      go_wp2_with fail
      clear c0 c1 c2 c3 c4 c5 c6 c7 c8 c9 c10 c11 c12 c13
      change bodyPost _ _ _ _ _ (setEnt w6 r x)
      obtain ⟨B8, hc6⟩ := setEnt_blk B7.out x
      have hT6 := TabTo.fin hXlt.out hb1 hTT.out hc6 (by omega) (by omega)
      generalize setEnt w6 r x = w7 at *
      clear r0 r1 r2 r3 r4 r5 r6 r7 r8 r9 r10 r11 r12 r13 rf
      obtain ⟨r0, r1, r2, r3, r4, r5, r6, r7, r8, r9, r10, r11, r12, r13, -⟩ := ent_blk B8
      clear B8 hc6
      replace hT6 := Lib.hid hT6
      replace hS := Lib.hid hS
      replace hV := Lib.hid hV
      replace hO := Lib.hid hO
      refine bodyPost_ret (v := .tuple #[(x).val, .int .i64 0]) (by simp [results, Try.results11, go_sem, r0, r1, r2, r3, r4, r5, r6, r7, r8, r9, r10, r11, r12, r13]) rfl ?_
      exact ⟨by rw [hV.out, hO.out], by rw [hS.out]; exact hT6.out⟩
  · have hok' : openOk t bk fl = false := by simpa using hok
    have hO : openE s t bk fl = 1 := by unfold openE; rw [hok']; rfl
    have hV : openV c s t bk fl = slt0 := by unfold openV; rw [hok']; rfl
    have hS : openS c n s t bk fl = s := by unfold openS; rw [hok']; rfl
    have ho2 := hok'
    unfold openOk at ho2
    rw [hst, htk] at ho2
    simp only [Bool.and_eq_false_iff, decide_eq_false_iff_not, Bool.not_eq_false'] at ho2
    cases tk
    case' false => clear ho2
    case' true =>
      by_cases b1 : bk < 0
      case' pos =>
        have x1 : decide (bk < 0) = true := by simpa using b1
        clear ho2
      case' neg =>
        have x1 : decide (bk < 0) = false := by simpa using b1
        by_cases b2 : 65535 < bk
        case' pos =>
          have x2 : decide (65535 < bk) = true := by simpa using b2
          clear ho2
        case' neg =>
          have x2 : decide (65535 < bk) = false := by simpa using b2
          have x3 : (st == 0) = true := by
            rcases ho2 with (h | h) | h
            · cases h
            · omega
            · exact h
          clear ho2
    all_goals
      go_upto_region 3 with (first
        | (go_at_call 29; (with_reducible refine (BG.out _).mono ?_); rintro e w8 ⟨rfl, rfl⟩)
        | (go_at_call 28; (with_reducible refine GV.out.mono ?_); rintro e w8 ⟨rfl, rfl⟩)
        | (go_at_call 30; (with_reducible refine TR.out.mono ?_); rintro e w2 ⟨rfl, hb2⟩))
      have hbX2 : Chg X w1 w2 := Chg.of_below hb2
      have h2 := h1.out.call hb2
      have B2 := B1.out.call hb2
      clear BG GV TR p0 p1 p2 p3 p4 p5 p6 p7 p8 hb2
      obtain ⟨r0, r1, r2, r3, r4, r5, r6, r7, r8, r9, r10, r11, r12, r13, rf⟩ := ent_blk B2
      replace h2 := Lib.hid h2
      replace B2 := Lib.hid B2
      go_wp2_with fail
      change bodyPost _ _ _ _ _ (setEnt w2 r slt0)
      obtain ⟨B6, hc6⟩ := setEnt_blk B2.out slt0
      have hT6 := TabTo.fin hXlt.out hb1 (TabTo.of h2.out hbX2) hc6 (by omega) (by omega)
      generalize setEnt w2 r slt0 = w6 at *
      clear r0 r1 r2 r3 r4 r5 r6 r7 r8 r9 r10 r11 r12 r13 rf
      obtain ⟨r0, r1, r2, r3, r4, r5, r6, r7, r8, r9, r10, r11, r12, r13, -⟩ := ent_blk B6
      clear B6 hc6
      replace hT6 := Lib.hid hT6
      replace hS := Lib.hid hS
      replace hV := Lib.hid hV
      replace hO := Lib.hid hO
      refine bodyPost_ret (v := .tuple #[(slt0).val, .int .i64 1]) (by simp [results, Try.results11, go_sem, r0, r1, r2, r3, r4, r5, r6, r7, r8, r9, r10, r11, r12, r13]) rfl ?_
      exact ⟨by rw [hV.out, hO.out], by rw [hS.out]; exact hT6.out⟩
end
end Go.Proofs.Ytmkknjhalcocmaa

namespace Go.Proofs.Ytmkknjhalcocmaa
open Go Go.RowKit Go.Deep Go.Maps Go.ChangeMaps

/-- Are tuples one? -/
def tupB (t u : Tup) : Bool := t.p == u.p && (t.v == u.v && ((t.hi == u.hi) && (t.lo == u.lo && (t.v' == u.v' && (t.hi' == u.hi' && (t.lo' == u.lo' && (t.sp == u.sp && t.dp == u.dp)))))))
theorem tupB_iff {t u : Tup} : tupB t u = true ↔ t = u := by
  obtain ⟨a1, a2, a3, a4, a5, a6, a7, a8, a9⟩ := t
  obtain ⟨b1, b2, b3, b4, b5, b6, b7, b8, b9⟩ := u
  unfold tupB
  simp
theorem tup_neq (t u : Tup) (w : World) : (binOp .neq 39 t.val u.val).run Try.prog w = .ok (.bool (!tupB t u)) w := by
  have u3 := Try.underlying3
  have a3 := Try.isAgg3
  have z3 := Try.sizeOf3
  have u4 := Try.underlying34
  have a4 := Try.isAgg34
  have z4 := Try.sizeOf34
  have u5 := Try.underlying4
  have a5 := Try.isAgg4
  have z5 := Try.sizeOf4
  have a6 := Try.isAgg37
  have z6 := Try.sizeOf37
  have hS : Try.prog.underlying 39 = some (.struct (Try.prog.fieldsOf 39)) := by kernel_rfl
  have hp : Try.prog.stoodInHeld 39 = false := by kernel_rfl
  have hS2 : Try.prog.underlying 37 = some (.struct (Try.prog.fieldsOf 37)) := by kernel_rfl
  have hp2 : Try.prog.stoodInHeld 37 = false := by kernel_rfl
  have hA := fun (d : Nat) (xs ys : Array Value) => run_equalIn_agg w d 37 xs ys hS2 hp2
  rw [run_neq_struct, show (10000 : Nat) = 9999 + 1 from rfl, run_equalIn_agg w 9999 39 _ _ hS hp]
  clear hS hp hS2 hp2
  simp only [Program.fieldsOf, Try.underlying39, Try.underlying37] at hA ⊢
  unfold tupB
  obtain ⟨a1, a2, a3, a4, a5, a6, a7, a8, a9⟩ := t
  obtain ⟨b1, b2, b3, b4, b5, b6, b7, b8, b9⟩ := u
  go_simp
  by_cases h1 : a1 = b1
  case neg => simp [h1]
  by_cases h2 : a2 = b2
  case neg => simp [h1, h2]
  by_cases h3 : a3 = b3
  case neg =>
    have g3 : ¬ ((a3 : Int) = (b3 : Int)) := by omega
    simp [h1, h2, h3, g3]
  by_cases h4 : a4 = b4
  case neg =>
    have g4 : ¬ ((a4 : Int) = (b4 : Int)) := by omega
    simp [h1, h2, h3, h4, g4]
  by_cases h5 : a5 = b5
  case neg => simp [h1, h2, h3, h4, h5]
  by_cases h6 : a6 = b6
  case neg =>
    have g6 : ¬ ((a6 : Int) = (b6 : Int)) := by omega
    simp [h1, h2, h3, h4, h5, h6, g6]
  by_cases h7 : a7 = b7
  case neg =>
    have g7 : ¬ ((a7 : Int) = (b7 : Int)) := by omega
    simp [h1, h2, h3, h4, h5, h6, h7, g7]
  by_cases h8 : a8 = b8
  case neg => simp [h1, h2, h3, h4, h5, h6, h7, h8]
  by_cases h9 : a9 = b9
  case neg => simp [h1, h2, h3, h4, h5, h6, h7, h8, h9]
  simp [h1, h2, h3, h4, h5, h6, h7, h8, h9]
/-- Is it found? -/
def findOk (n : Nat) (s : TSt) (t : Tup) (i low bt : Int) : Bool := closeOk n s i && (decide (0 ≤ bt ∧ bt ≤ 63) && (tupB (s.E i.toNat).t t && (bits BinOp.and IntKind.u64 (s.E i.toNat).gen (maskI bt) == low)))
def findV (n : Nat) (s : TSt) (t : Tup) (i low bt : Int) : Slt := if findOk n s t i low bt then s.E i.toNat else slt0
section
variable {w w1 w2 w3 : World} {g sb n r : Nat} {c : TCfg} {s s' : TSt} {X F : Nat → Prop}
set_option maxRecDepth 100000 in
set_option maxHeartbeats 4000000 in
theorem tab_find (h : TabP w g sb n c s X) (t : Tup) (i low bt : Int) :
    Calls Try.prog 12 #[.pointer (some ⟨g, 0, none⟩), t.val, .int .i64 i, .int .u64 low, .int .i64 bt] w fun e w' => e = .returned (.tuple #[(findV n s t i low bt).val, .bool (findOk n s t i low bt)]) ∧ TabTo w w' g sb n c (lookS n i s) X := by
  have hXlt : ∀ b, X b → b < w.heap.size := fun b hb => h.lt hb
  have P0 := Blk.new w 39 t.cells.toArray
  have hb0 : Below w.heap.size w (w.alloc (.cells t.cells.toArray 39)) := below_alloc (Below.refl _ _) _
  have B1 := Blk.new (w.alloc (.cells t.cells.toArray 39)) 43 slt0.entA
  have hb1 : Below w.heap.size w ((w.alloc (.cells t.cells.toArray 39)).alloc (.cells slt0.entA 43)) := below_alloc hb0 _
  have P1 := P0.alloc (.cells slt0.entA 43)
  have h1 := h.call hb1
  have hzz := B1.lt
  rw [World.size_alloc] at B1 hzz
  clear h hb0 P0
  replace B1 := Lib.hid B1
  replace hXlt := Lib.hid hXlt
  replace h1 := Lib.hid h1
  go_enter Try.func12, Try.ntmps12
  go_upto_region 1 with fail
  change Code.wp _ _ _ _ ((w.alloc (.cells t.cells.toArray 39)).alloc (.cells slt0.entA 43))
  obtain ⟨r, hr⟩ : ∃ r, w.heap.size + 1 = r := ⟨_, rfl⟩
  obtain ⟨p, hp⟩ : ∃ p, w.heap.size = p := ⟨_, rfl⟩
  rw [hr] at B1 hzz
  rw [hp] at P1
  generalize (w.alloc (.cells t.cells.toArray 39)).alloc (.cells slt0.entA 43) = w1 at *
  try rw [hr]
  try rw [hp]
  have LK := Lib.hid (tab_look h1.out i)
  go_wp2_with fail
  refine LK.out.mono ?_
  rintro e w2 ⟨rfl, h2, hc2⟩
  have hrX : ¬ r = g := fun e => by
    have := hXlt.out g h1.out.gX
    omega
  have hpX : ¬ p = g := fun e => by
    have := hXlt.out g h1.out.gX
    omega
  have B2 := B1.out.chg hc2 (fun e => hrX e)
  have P2 := P1.chg hc2 (fun e => hpX e)
  have hc2X : Chg X w1 w2 := hc2.mono fun b _ e => by have e2 : b = g := e; rw [e2]; exact h1.out.gX
  clear LK hc2
  by_cases hi : lookOk n i = true
  · rw [hi, if_pos rfl]
    have hi2 := hi
    unfold lookOk at hi2
    rw [decide_eq_true_eq] at hi2
    obtain ⟨k, rfl⟩ : ∃ k : Nat, i = (k : Int) := ⟨i.toNat, by omega⟩
    have hk : k < n := by omega
    rw [Int.toNat_natCast]
    have hC := fun j hj => h2.slot hk j hj
    rw [lookS_E] at hC
    have hO1 : findOk n s t k low bt = ((s.E k).used && (decide (0 ≤ bt ∧ bt ≤ 63) && (tupB (s.E k).t t && (bits BinOp.and IntKind.u64 (s.E k).gen (maskI bt) == low)))) := by unfold findOk closeOk; rw [hi, Int.toNat_natCast, Bool.true_and]
    have hV1 : findV n s t k low bt = if findOk n s t k low bt then s.E k else slt0 := by unfold findV; rw [Int.toNat_natCast]
    obtain ⟨x, hx⟩ : ∃ x, s.E k = x := ⟨_, rfl⟩
    rw [hx] at hC hO1 hV1
    have c0 : w2.cell? ⟨sb, k * 15, none⟩ = some (.int .i64 x.t.p) := hC 0 (by omega)
    have c1 : w2.cell? ⟨sb, k * 15 + 1, none⟩ = some (.bool x.t.v) := hC 1 (by omega)
    have c2 : w2.cell? ⟨sb, k * 15 + 2, none⟩ = some (.int .u64 x.t.hi) := hC 2 (by omega)
    have c3 : w2.cell? ⟨sb, k * 15 + 3, none⟩ = some (.int .u64 x.t.lo) := hC 3 (by omega)
    have c4 : w2.cell? ⟨sb, k * 15 + 4, none⟩ = some (.bool x.t.v') := hC 4 (by omega)
    have c5 : w2.cell? ⟨sb, k * 15 + 5, none⟩ = some (.int .u64 x.t.hi') := hC 5 (by omega)
    have c6 : w2.cell? ⟨sb, k * 15 + 6, none⟩ = some (.int .u64 x.t.lo') := hC 6 (by omega)
    have c7 : w2.cell? ⟨sb, k * 15 + 7, none⟩ = some (.int .i64 x.t.sp) := hC 7 (by omega)
    have c8 : w2.cell? ⟨sb, k * 15 + 8, none⟩ = some (.int .i64 x.t.dp) := hC 8 (by omega)
    have c9 : w2.cell? ⟨sb, k * 15 + 9, none⟩ = some (.int .i64 x.bk) := hC 9 (by omega)
    have c10 : w2.cell? ⟨sb, k * 15 + 10, none⟩ = some (.int .i64 x.st) := hC 10 (by omega)
    have c11 : w2.cell? ⟨sb, k * 15 + 11, none⟩ = some (.int .i64 x.sl) := hC 11 (by omega)
    have c12 : w2.cell? ⟨sb, k * 15 + 12, none⟩ = some (.int .u64 x.gen) := hC 12 (by omega)
    have c13 : w2.cell? ⟨sb, k * 15 + 13, none⟩ = some (.int .i64 x.due) := hC 13 (by omega)
    have c14 : w2.cell? ⟨sb, k * 15 + 14, none⟩ = some (.bool x.used) := hC 14 (by omega)
    have p0 : w2.cell? ⟨p, 0, none⟩ = some (.int .i64 t.p) := P2.cell 0
    have p1 : w2.cell? ⟨p, 1, none⟩ = some (.bool t.v) := P2.cell 1
    have p2 : w2.cell? ⟨p, 2, none⟩ = some (.int .u64 t.hi) := P2.cell 2
    have p3 : w2.cell? ⟨p, 3, none⟩ = some (.int .u64 t.lo) := P2.cell 3
    have p4 : w2.cell? ⟨p, 4, none⟩ = some (.bool t.v') := P2.cell 4
    have p5 : w2.cell? ⟨p, 5, none⟩ = some (.int .u64 t.hi') := P2.cell 5
    have p6 : w2.cell? ⟨p, 6, none⟩ = some (.int .u64 t.lo') := P2.cell 6
    have p7 : w2.cell? ⟨p, 7, none⟩ = some (.int .i64 t.sp) := P2.cell 7
    have p8 : w2.cell? ⟨p, 8, none⟩ = some (.int .i64 t.dp) := P2.cell 8
    replace hx := Lib.hid hx
    clear hC P1 P2
    have hE := fun W => tup_neq x.t t W
    have hG : Try.prog.eqGuardType Try.prog.depth 39 = false := by kernel_rfl
    have MK := Lib.hid fun W => (mask_any bt W).mono fun _ _ h => And.intro h.1 h.2.symm
    obtain ⟨tb, htb⟩ : ∃ tb, tupB x.t t = tb := ⟨_, rfl⟩
    obtain ⟨mv, hmv⟩ : ∃ mv, maskI bt = mv := ⟨_, rfl⟩
    rw [htb] at hE hO1
    rw [hmv] at MK hO1
    obtain ⟨gm, hgm⟩ : ∃ gm, bits BinOp.and IntKind.u64 x.gen mv = gm := ⟨_, rfl⟩
    rw [hgm] at hO1
    have hTo := TabTo.of h2 hc2X
    replace hTo := Lib.hid hTo
    replace h2 := Lib.hid h2
    cases hu : x.used
    · rw [hu] at hO1 c14
      have hO : findOk n s t k low bt = false := by rw [hO1]; rfl
      have hV : findV n s t k low bt = slt0 := by rw [hV1, hO]; rfl
      replace hO1 := Lib.hid hO1
      replace hV1 := Lib.hid hV1
      clear hE hG MK hgm
      obtain ⟨r0, r1, r2, r3, r4, r5, r6, r7, r8, r9, r10, r11, r12, r13, rf⟩ := ent_blk B2
      replace B2 := Lib.hid B2
      go_wp2_with fail
      clear c0 c1 c2 c3 c4 c5 c6 c7 c8 c9 c10 c11 c12 c13 c14 p0 p1 p2 p3 p4 p5 p6 p7 p8
      change bodyPost _ _ _ _ _ (setEnt w2 r slt0)
      obtain ⟨B6, hc6⟩ := setEnt_blk B2.out slt0
      have hT6 := TabTo.fin hXlt.out hb1 hTo.out hc6 (by omega) (by omega)
      generalize setEnt w2 r slt0 = w6 at *
      clear r0 r1 r2 r3 r4 r5 r6 r7 r8 r9 r10 r11 r12 r13 rf
      obtain ⟨r0, r1, r2, r3, r4, r5, r6, r7, r8, r9, r10, r11, r12, r13, -⟩ := ent_blk B6
      clear B6 hc6
      replace hT6 := Lib.hid hT6
      replace hV := Lib.hid hV
      replace hO := Lib.hid hO
      refine bodyPost_ret (v := .tuple #[(slt0).val, .bool false]) (by simp [results, Try.results12, go_sem, r0, r1, r2, r3, r4, r5, r6, r7, r8, r9, r10, r11, r12, r13]) rfl ?_
      exact ⟨by rw [hV.out, hO.out], hT6.out⟩
    · rw [hu, Bool.true_and] at hO1
      rw [hu] at c14
      by_cases hbt : 0 ≤ bt ∧ bt ≤ 63
      · rw [decide_eq_true hbt, Bool.true_and] at hO1
        have x1 : decide (bt < 0) = false := by simp; omega
        have x2 : decide (63 < bt) = false := by simp; omega
        cases tb
        · have hO : findOk n s t k low bt = false := by rw [hO1]; rfl
          have hV : findV n s t k low bt = slt0 := by rw [hV1, hO]; rfl
          replace hO1 := Lib.hid hO1
          replace hV1 := Lib.hid hV1
          replace hgm := Lib.hid hgm
          go_upto_region 4 with fail
          go_quiet ((go_at_call 34; with_reducible exact Calls.quiet_of_same (MK.out _)))
          have hbq := below_drewN (Below.refl w2.heap.size w2) nq
          have h3 := h2.out.call hbq
          have B3 := B2.call hbq
          have hc3X : Chg X w1 (w2.drewN nq) := hc2X.drewN nq
          clear hE hG MK B2
          clear c0 c1 c2 c3 c4 c5 c6 c7 c8 c9 c10 c11 c12 c13 c14 p0 p1 p2 p3 p4 p5 p6 p7 p8
          generalize w2.drewN nq = w3 at *
          have hT3 := TabTo.of h3 hc3X
          replace hT3 := Lib.hid hT3
          replace h3 := Lib.hid h3
          obtain ⟨r0, r1, r2, r3, r4, r5, r6, r7, r8, r9, r10, r11, r12, r13, rf⟩ := ent_blk B3
          replace B3 := Lib.hid B3
          go_wp2_with fail
          change bodyPost _ _ _ _ _ (setEnt w3 r slt0)
          obtain ⟨B6, hc6⟩ := setEnt_blk B3.out slt0
          have hT6 := TabTo.fin hXlt.out hb1 hT3.out hc6 (by omega) (by omega)
          generalize setEnt w3 r slt0 = w6 at *
          clear r0 r1 r2 r3 r4 r5 r6 r7 r8 r9 r10 r11 r12 r13 rf
          obtain ⟨r0, r1, r2, r3, r4, r5, r6, r7, r8, r9, r10, r11, r12, r13, -⟩ := ent_blk B6
          clear B6 hc6
          replace hT6 := Lib.hid hT6
          replace hV := Lib.hid hV
          replace hO := Lib.hid hO
          refine bodyPost_ret (v := .tuple #[(slt0).val, .bool false]) (by simp [results, Try.results12, go_sem, r0, r1, r2, r3, r4, r5, r6, r7, r8, r9, r10, r11, r12, r13]) rfl ?_
          exact ⟨by rw [hV.out, hO.out], hT6.out⟩
        · rw [Bool.true_and] at hO1
          by_cases hgl : gm = low
          · have hO : findOk n s t k low bt = true := by rw [hO1]; simpa using hgl
            have hV : findV n s t k low bt = x := by rw [hV1, hO]; rfl
            have x3 : (gm != low) = false := by simpa using hgl
            replace hO1 := Lib.hid hO1
            replace hV1 := Lib.hid hV1
            replace hgl := Lib.hid hgl
            go_upto_region 4 with fail
            go_quiet ((go_at_call 34; with_reducible exact Calls.quiet_of_same (MK.out _)))
            have hbq := below_drewN (Below.refl w2.heap.size w2) nq
            have h3 := h2.out.call hbq
            have B3 := B2.call hbq
            have hc3X : Chg X w1 (w2.drewN nq) := hc2X.drewN nq
            clear hE hG MK B2
            clear c0 c1 c2 c3 c4 c5 c6 c7 c8 c9 c10 c11 c12 c13 c14 p0 p1 p2 p3 p4 p5 p6 p7 p8
            generalize w2.drewN nq = w3 at *
            have hT3 := TabTo.of h3 hc3X
            replace hT3 := Lib.hid hT3
            have hC := fun j hj => h3.slot hk j hj
            rw [lookS_E, hx.out] at hC
            have c0 : w3.cell? ⟨sb, k * 15, none⟩ = some (.int .i64 x.t.p) := hC 0 (by omega)
            have c1 : w3.cell? ⟨sb, k * 15 + 1, none⟩ = some (.bool x.t.v) := hC 1 (by omega)
            have c2 : w3.cell? ⟨sb, k * 15 + 2, none⟩ = some (.int .u64 x.t.hi) := hC 2 (by omega)
            have c3 : w3.cell? ⟨sb, k * 15 + 3, none⟩ = some (.int .u64 x.t.lo) := hC 3 (by omega)
            have c4 : w3.cell? ⟨sb, k * 15 + 4, none⟩ = some (.bool x.t.v') := hC 4 (by omega)
            have c5 : w3.cell? ⟨sb, k * 15 + 5, none⟩ = some (.int .u64 x.t.hi') := hC 5 (by omega)
            have c6 : w3.cell? ⟨sb, k * 15 + 6, none⟩ = some (.int .u64 x.t.lo') := hC 6 (by omega)
            have c7 : w3.cell? ⟨sb, k * 15 + 7, none⟩ = some (.int .i64 x.t.sp) := hC 7 (by omega)
            have c8 : w3.cell? ⟨sb, k * 15 + 8, none⟩ = some (.int .i64 x.t.dp) := hC 8 (by omega)
            have c9 : w3.cell? ⟨sb, k * 15 + 9, none⟩ = some (.int .i64 x.bk) := hC 9 (by omega)
            have c10 : w3.cell? ⟨sb, k * 15 + 10, none⟩ = some (.int .i64 x.st) := hC 10 (by omega)
            have c11 : w3.cell? ⟨sb, k * 15 + 11, none⟩ = some (.int .i64 x.sl) := hC 11 (by omega)
            have c12 : w3.cell? ⟨sb, k * 15 + 12, none⟩ = some (.int .u64 x.gen) := hC 12 (by omega)
            have c13 : w3.cell? ⟨sb, k * 15 + 13, none⟩ = some (.int .i64 x.due) := hC 13 (by omega)
            obtain ⟨r0, r1, r2, r3, r4, r5, r6, r7, r8, r9, r10, r11, r12, r13, rf⟩ := ent_blk B3
            clear hC
            replace h3 := Lib.hid h3
            replace B3 := Lib.hid B3
            go_wp2_with fail
            clear c0 c1 c2 c3 c4 c5 c6 c7 c8 c9 c10 c11 c12 c13
            change bodyPost _ _ _ _ _ (setEnt w3 r x)
            obtain ⟨B6, hc6⟩ := setEnt_blk B3.out x
            have hT6 := TabTo.fin hXlt.out hb1 hT3.out hc6 (by omega) (by omega)
            generalize setEnt w3 r x = w6 at *
            clear r0 r1 r2 r3 r4 r5 r6 r7 r8 r9 r10 r11 r12 r13 rf
            obtain ⟨r0, r1, r2, r3, r4, r5, r6, r7, r8, r9, r10, r11, r12, r13, -⟩ := ent_blk B6
            clear B6 hc6
            replace hT6 := Lib.hid hT6
            replace hV := Lib.hid hV
            replace hO := Lib.hid hO
            refine bodyPost_ret (v := .tuple #[(x).val, .bool true]) (by simp [results, Try.results12, go_sem, r0, r1, r2, r3, r4, r5, r6, r7, r8, r9, r10, r11, r12, r13]) rfl ?_
            exact ⟨by rw [hV.out, hO.out], hT6.out⟩
          · have hO : findOk n s t k low bt = false := by rw [hO1]; simpa using hgl
            have hV : findV n s t k low bt = slt0 := by rw [hV1, hO]; rfl
            have x3 : (gm != low) = true := by simpa using hgl
            replace hO1 := Lib.hid hO1
            replace hV1 := Lib.hid hV1
            replace hgl := Lib.hid hgl
            go_upto_region 4 with fail
            go_quiet ((go_at_call 34; with_reducible exact Calls.quiet_of_same (MK.out _)))
            have hbq := below_drewN (Below.refl w2.heap.size w2) nq
            have h3 := h2.out.call hbq
            have B3 := B2.call hbq
            have hc3X : Chg X w1 (w2.drewN nq) := hc2X.drewN nq
            clear hE hG MK B2
            clear c0 c1 c2 c3 c4 c5 c6 c7 c8 c9 c10 c11 c12 c13 c14 p0 p1 p2 p3 p4 p5 p6 p7 p8
            generalize w2.drewN nq = w3 at *
            have hT3 := TabTo.of h3 hc3X
            replace hT3 := Lib.hid hT3
            replace h3 := Lib.hid h3
            obtain ⟨r0, r1, r2, r3, r4, r5, r6, r7, r8, r9, r10, r11, r12, r13, rf⟩ := ent_blk B3
            replace B3 := Lib.hid B3
            go_wp2_with fail
            change bodyPost _ _ _ _ _ (setEnt w3 r slt0)
            obtain ⟨B6, hc6⟩ := setEnt_blk B3.out slt0
            have hT6 := TabTo.fin hXlt.out hb1 hT3.out hc6 (by omega) (by omega)
            generalize setEnt w3 r slt0 = w6 at *
            clear r0 r1 r2 r3 r4 r5 r6 r7 r8 r9 r10 r11 r12 r13 rf
            obtain ⟨r0, r1, r2, r3, r4, r5, r6, r7, r8, r9, r10, r11, r12, r13, -⟩ := ent_blk B6
            clear B6 hc6
            replace hT6 := Lib.hid hT6
            replace hV := Lib.hid hV
            replace hO := Lib.hid hO
            refine bodyPost_ret (v := .tuple #[(slt0).val, .bool false]) (by simp [results, Try.results12, go_sem, r0, r1, r2, r3, r4, r5, r6, r7, r8, r9, r10, r11, r12, r13]) rfl ?_
            exact ⟨by rw [hV.out, hO.out], hT6.out⟩
      · have hO : findOk n s t k low bt = false := by rw [hO1, decide_eq_false hbt]; rfl
        have hV : findV n s t k low bt = slt0 := by rw [hV1, hO]; rfl
        replace hO1 := Lib.hid hO1
        replace hV1 := Lib.hid hV1
        clear hE hG MK hgm
        have B3 := B2
        clear B2
        by_cases hb0 : bt < 0
        case' pos => have x1 : decide (bt < 0) = true := by simpa using hb0
        case' neg =>
          have x1 : decide (bt < 0) = false := by simpa using hb0
          have x2 : decide (63 < bt) = true := by simp; omega
        all_goals
          clear hbt
          obtain ⟨r0, r1, r2, r3, r4, r5, r6, r7, r8, r9, r10, r11, r12, r13, rf⟩ := ent_blk B3
          replace B3 := Lib.hid B3
          go_wp2_with fail
          clear c0 c1 c2 c3 c4 c5 c6 c7 c8 c9 c10 c11 c12 c13 c14 p0 p1 p2 p3 p4 p5 p6 p7 p8
          change bodyPost _ _ _ _ _ (setEnt w2 r slt0)
          obtain ⟨B6, hc6⟩ := setEnt_blk B3.out slt0
          have hT6 := TabTo.fin hXlt.out hb1 hTo.out hc6 (by omega) (by omega)
          generalize setEnt w2 r slt0 = w6 at *
          clear r0 r1 r2 r3 r4 r5 r6 r7 r8 r9 r10 r11 r12 r13 rf
          obtain ⟨r0, r1, r2, r3, r4, r5, r6, r7, r8, r9, r10, r11, r12, r13, -⟩ := ent_blk B6
          clear B6 hc6
          replace hT6 := Lib.hid hT6
          replace hV := Lib.hid hV
          replace hO := Lib.hid hO
          refine bodyPost_ret (v := .tuple #[(slt0).val, .bool false]) (by simp [results, Try.results12, go_sem, r0, r1, r2, r3, r4, r5, r6, r7, r8, r9, r10, r11, r12, r13]) rfl ?_
          exact ⟨by rw [hV.out, hO.out], hT6.out⟩
  · have hi' : lookOk n i = false := by simpa using hi
    rw [hi', if_neg (by decide)]
    have hO : findOk n s t i low bt = false := by unfold findOk closeOk; rw [hi', Bool.false_and, Bool.false_and]
    have hV : findV n s t i low bt = slt0 := by unfold findV; rw [hO]; rfl
    obtain ⟨r0, r1, r2, r3, r4, r5, r6, r7, r8, r9, r10, r11, r12, r13, rf⟩ := ent_blk B2
    replace B2 := Lib.hid B2
    go_wp2_with fail
    change bodyPost _ _ _ _ _ (setEnt w2 r slt0)
    obtain ⟨B6, hc6⟩ := setEnt_blk B2.out slt0
    have hT6 := TabTo.fin hXlt.out hb1 (TabTo.of h2 hc2X) hc6 (by omega) (by omega)
    generalize setEnt w2 r slt0 = w6 at *
    clear r0 r1 r2 r3 r4 r5 r6 r7 r8 r9 r10 r11 r12 r13 rf
    obtain ⟨r0, r1, r2, r3, r4, r5, r6, r7, r8, r9, r10, r11, r12, r13, -⟩ := ent_blk B6
    clear B6 hc6
    replace hT6 := Lib.hid hT6
    replace hV := Lib.hid hV
    replace hO := Lib.hid hO
    refine bodyPost_ret (v := .tuple #[(slt0).val, .bool false]) (by simp [results, Try.results12, go_sem, r0, r1, r2, r3, r4, r5, r6, r7, r8, r9, r10, r11, r12, r13]) rfl ?_
    exact ⟨by rw [hV.out, hO.out], hT6.out⟩
end
end Go.Proofs.Ytmkknjhalcocmaa

namespace Go.Proofs.Ytmkknjhalcocmaa
open Go Go.RowKit Go.Deep Go.Maps Go.ChangeMaps

theorem info_ent : (Try.prog.info? 43).map (fun i => (i.zero, i.size, i.bytes)) = some (some (.agg slt0.entA), 14, 112) := by kernel_rfl
abbrev OwnE (w : World) (base : Nat) (A : Option Addr) (c : Nat) (l : List Slt) : Prop := OwnA Slt.ent 14 43 w base A c l
theorem wpList_push_ent {W : World} {cs : Array Value} {ops : Array Oper} {rest : List Oper} {o : Oper} {a : Act} {Q : Exit → Act → World → Prop} (hgd : o.guard = none) (s x : Operand)
    (ho : o.op = .call { callee := .builtin .append, args := #[s, x], argTypes := #[30, 30] })
    (base : Nat) (A : Option Addr) (c : Nat) (l : List Slt) (v : Slt) (n : Nat) (hn : l.length = n) (hs : a.eval s = .slice A n c) (hown : OwnE W base A c l) (g : Nat) (hg : g = W.heap.size) (hcs : v.ent.toArray = cs)
    (hx : a.eval x = .slice (some ⟨g, 0, none⟩) 1 1) (hl : l.length ≤ 1000000) (hbase : base ≤ W.heap.size)
    (h : ∀ A' c' w', OwnE w' base A' c' (l ++ [v]) → Pushed W w' A A' → wpList Try.prog ops Q rest (a.put o.dst (.slice A' (n + 1) c')) w') : wpList Try.prog ops Q (o :: rest) a (W.alloc (.cells cs 43)) := by
  obtain ⟨i0, hi0, hz0, hz1, hz2⟩ := info_parts info_ent
  exact wpList_push Slt.ent 14 (fun _ => rfl) (fun b u hu => by
    simp at hu; rcases hu with rfl | rfl | rfl | rfl | rfl | rfl | rfl | rfl | rfl | rfl | rfl | rfl | rfl | rfl <;> rfl) (by omega) 30 i0 _ 112 Try.underlying30 hi0 hz0 hz1 hz2 rfl (by omega) hgd s x ho base A c l v n hn hs hown g hg hcs hx hl hbase h
section
variable {w w1 w2 w3 : World} {g sb n r : Nat} {c : TCfg} {s s' : TSt} {X F : Nat → Prop}
theorem TabP.wheelGo (h : TabP w g sb n c s X) : ∃ wg Y, w.cell? ⟨g, 5, none⟩ = some (.pointer (some ⟨wg, 0, none⟩)) ∧ WheelP w wg c.G s.now s.M Y ∧ ∀ (w' : World) (now' : Int) (M' : LM), WheelP w' wg c.G now' M' Y → Chg Y w w' → TabP w' g sb n c { s with now := now', M := M' } X ∧ Chg X w w' := by
  obtain ⟨fs, wg, F', Y, h1, h2, h3, h4, h5, h6, h7, h8, h9⟩ := h
  have c5 := h1.cell 5
  simp at c5
  refine ⟨wg, Y, c5, h3, fun w' now' M' k1 k2 => ⟨⟨fs, wg, F', Y, h1.chg k2 (fun e => (h7 g (.inr e)).1 rfl), h2.chg k2 (fun b hb e => h6 b hb e), k1, h4.chg k2 (fun e => (h7 sb (.inr e)).2 rfl), h5, h6, h7, h8, h9⟩, k2.mono fun b _ hb => (h5 b).2 (.inr (.inr (.inr hb)))⟩⟩
/-- The table behind all of them. -/
def goAll (n : Nat) (s : TSt) (S : List Int) : TSt := S.foldl (fun s x => goS n s x.toNat) s
theorem goAll_take (n : Nat) (s : TSt) {S : List Int} {k : Nat} (hk : k < S.length) : goAll n s (S.take (k + 1)) = goS n (goAll n s (S.take k)) S[k].toNat := by
  unfold goAll
  rw [List.take_succ_eq_append_getElem hk, List.foldl_append]
  rfl
theorem goAll_sl {n : Nat} : ∀ (S : List Int) (s : TSt), (∀ k : Nat, k < n → (s.E k).sl = k) → ∀ k : Nat, k < n → ((goAll n s S).E k).sl = k
  | [], _, h => h
  | x :: S, s, h => goAll_sl S (goS n s x.toNat) fun k hk => by
    show (updE s.E x.toNat (clrS (s.E x.toNat)) k).sl = k
    unfold updE
    split
    · next e =>
      subst e
      exact h _ hk
    · exact h k hk
theorem goAll_E {n : Nat} : ∀ (S : List Int) (s : TSt) (k : Nat), (∀ x ∈ S, x.toNat ≠ k) → (goAll n s S).E k = s.E k
  | [], _, _, _ => rfl
  | x :: S, s, k, h => by
    refine (goAll_E S (goS n s x.toNat) k fun y hy => h y (List.mem_cons_of_mem _ hy)).trans ?_
    show updE s.E x.toNat (clrS (s.E x.toNat)) k = s.E k
    exact updE_ne _ _ (fun e => h x List.mem_cons_self e.symm)
theorem OwnA.low {α : Type} {cells : α → List Value} {m : Nat} {e : TypeId} {base base' c : Nat} {A : Option Addr} {L : List α} (h : OwnA cells m e w base A c L) (hb : base' ≤ base) : OwnA cells m e w base' A c L := by
  unfold OwnA at h ⊢
  refine ⟨h.1, ?_⟩
  rcases h.2 with h0 | ⟨g, cap, cur, h1, hg, r⟩
  · exact .inl h0
  · exact .inr ⟨g, cap, cur, h1, by omega, r⟩
/-- What Go hands out, and leaves. -/
def goTab (n : Nat) (s : TSt) (nw : Int) (S : List Int) : TSt := goAll n { s with now := goN s.now nw, M := delAll s.M S } S
def goEnts (s : TSt) (S : List Int) : List Slt := S.map fun x => s.E x.toNat
set_option maxRecDepth 100000 in
set_option maxHeartbeats 4000000 in
theorem tab_go (h : TabP w g sb n c s X) (hsl : ∀ k : Nat, k < n → (s.E k).sl = k) (hMn : ∀ x, lmHas s.M x = true → 0 ≤ x ∧ x < n) (nw : Int) :
    Calls Try.prog 15 #[.pointer (some ⟨g, 0, none⟩), .int .i64 nw] w fun e w' => ∃ (B : Option Addr) (q : Nat) (S : List Int), e = .returned (.tuple #[.slice B S.length q, .int .i64 (goE s.now nw)]) ∧ GoS c.G s.now nw s.M S ∧ OwnE w' w.heap.size B q (goEnts s S) ∧ (∀ x ∈ S, 0 ≤ x ∧ x < n) ∧ TabTo w w' g sb n c (goTab n s nw S) X := by
  obtain ⟨r1, r2, hn⟩ := h.rng
  obtain ⟨wg, Y, c5, hW, hput⟩ := h.wheelGo
  have hXlt : ∀ b, X b → b < w.heap.size := fun b hb => h.lt hb
  have GV := Lib.hid (tab_given h)
  have GO := Lib.hid (wheelp_go hW nw)
  clear hW
  replace h := Lib.hid h
  replace hsl := Lib.hid hsl
  replace hMn := Lib.hid hMn
  replace hXlt := Lib.hid hXlt
  replace hput := Lib.hid hput
  obtain ⟨ev, hev⟩ : ∃ ev, goE s.now nw = ev := ⟨_, rfl⟩
  rw [hev] at GO
  go_enter Try.func15, Try.ntmps15
  go_wp2_with (go_at_call 28; (with_reducible refine GV.out.mono ?_); rintro e w8 ⟨rfl, rfl⟩)
  refine GO.out.mono ?_
  rintro e w1 ⟨B, q, S, rfl, hGo, hR, hBn, hW1, hcY⟩
  obtain ⟨h1, hc1⟩ := hput.out _ _ _ hW1 hcY
  have hz1 := hc1.size
  clear hput GO GV hcY c5
  cases hk : goOk s.now nw
  · have he : ev = 15 := by rw [← hev]; unfold goE; rw [hk]; rfl
    have x1 : (ev != 0) = true := by rw [he]; rfl
    obtain rfl := hGo.no hk
    replace hev := Lib.hid hev
    replace he := Lib.hid he
    replace hGo := Lib.hid hGo
    replace h1 := Lib.hid h1
    clear hR
    go_wp2_with fail
    go_ret2
    exact ⟨none, 0, [], by rw [hev.out]; rfl, hGo.out, OwnA.nil _ _, fun x hx => absurd hx (by simp), TabTo.of h1.out hc1⟩
  · have he : ev = 0 := by rw [← hev]; unfold goE; rw [hk]; rfl
    have x1 : (ev != 0) = false := by rw [he]; rfl
    have hSn : ∀ x ∈ S, 0 ≤ x ∧ x < (n : Int) := fun x hx => hMn.out x (((hGo.mem hk) x).1 hx).1
    have hSl : S.length ≤ n := nodup_len n S hGo.nd hSn
    have hSd := hGo.nd
    obtain ⟨s1, hs1⟩ : ∃ s1 : TSt, s1 = { s with now := goN s.now nw, M := delAll s.M S } := ⟨_, rfl⟩
    rw [← hs1] at h1
    have hE1 : s1.E = s.E := by rw [hs1]
    replace hs1 := Lib.hid hs1
    replace hev := Lib.hid hev
    replace he := Lib.hid he
    replace hGo := Lib.hid hGo
    replace h1 := Lib.hid h1
    replace hSn := Lib.hid hSn
    replace hSd := Lib.hid hSd
    go_wp2_with fail
    go_loopw [8, 28] (fun ov kv wr => ∃ (j : Nat) (A : Option Addr) (a : Nat) (Xj : Nat → Prop), j ≤ S.length ∧ kv = .int .i64 (j : Nat) ∧ ov = .slice A j a ∧ OwnE wr w1.heap.size A a (goEnts s (S.take j)) ∧ TabP wr g sb n c (goAll n s1 (S.take j)) Xj ∧ (∀ b, InB A b → ¬ Xj b) ∧ (∀ b, Xj b → X b ∨ w1.heap.size ≤ b) ∧ Chg X w1 wr) (fun _ kv _ => S.length - (intOf kv).toNat)
    case atStart => exact ⟨0, none, 0, X, by omega, rfl, rfl, OwnA.nil _ _, h1.out, fun b hb => absurd hb inB_none, fun b hb => .inl hb, Chg.refl _ _⟩
    case round =>
      obtain ⟨j, A, a, Xj, hj, rfl, rfl, hO, hT, hAX, hXj, hc⟩ := hrel
      have hRj := hR.chg hc (fun ad e hx => by have h5 := hBn _ ⟨ad, e, rfl⟩; have h6 := hXlt.out _ hx; omega)
      have hzr := hc.size
      by_cases hlt : j < S.length
      · have hlti : (j : Int) < (S.length : Int) := by omega
        obtain ⟨ad, rfl, hbl, cS⟩ := hRj.int_at hlt
        rw [show S.getD j 0 = S[j] by simp [hlt]] at cS
        have hm := hSn.out S[j] (List.getElem_mem hlt)
        obtain ⟨m, hme⟩ : ∃ m : Nat, S[j] = (m : Int) := ⟨S[j].toNat, by omega⟩
        rw [hme] at cS hm
        have hmn : m < n := by omega
        have x2 : (m : Int) < (n : Int) := hm.2
        have hgt := goAll_take n s1 hlt
        rw [hme, Int.toNat_natCast] at hgt
        have hent : goEnts s (S.take (j + 1)) = goEnts s (S.take j) ++ [s.E m] := by
          unfold goEnts
          rw [List.take_succ_eq_append_getElem hlt, List.map_append, hme]
          rfl
        have hEm : (goAll n s1 (S.take j)).E m = s.E m := by
          rw [goAll_E _ _ _ fun x hx e => ?_, hE1]
          obtain ⟨i, hi, e2⟩ := List.getElem_of_mem hx
          rw [List.length_take] at hi
          rw [List.getElem_take] at e2
          have h5 : S[i] ≠ S[j] := (List.pairwise_iff_getElem.1 (List.nodup_iff_pairwise_ne.1 hSd.out)) i j (by omega) hlt (by omega)
          have h6 := hSn.out S[i] (List.getElem_mem (by omega))
          rw [← e2] at e
          omega
        have c6 := hT.cells.1
        have GS := tab_goes2 hT m hmn (goAll_sl _ _ (fun k hk => by rw [hE1]; exact hsl.out k hk) m hmn)
        rw [hEm] at GS
        replace GS := Lib.hid GS
        have hlen : (goEnts s (S.take j)).length = j := by unfold goEnts; simp; omega
        generalize goEnts s (S.take j) = out at *
        generalize s.E m = x at *
        replace hgt := Lib.hid hgt
        replace hent := Lib.hid hent
        replace hEm := Lib.hid hEm
        replace hme := Lib.hid hme
        replace hO := Lib.hid hO
        replace hT := Lib.hid hT
        clear hRj
        go_wp2_with (first
          | (go_at_call 36; (with_reducible refine GS.out.mono ?_); rintro e w3 ⟨rfl, X3, hT3, hc3, hX3⟩; have hz3 := hc3.size; have hO3 := hO.out.chg hc3 hAX)
          | (at_builtin; refine wpList_push_ent rfl (.tmp 32) (.tmp 41) rfl w1.heap.size A a out x j hlen rfl hO3 _ rfl rfl rfl (by omega) (by omega) ?_; intro A4 a4 w4 hO4 hp4))
        have hA3 : ∀ b, InB A b → ¬ X3 b := fun b hb hx => by
          rcases hX3 b hx with h5 | h5
          · exact hAX b hb h5
          · have := (hO.out.block hb).2
            omega
        have hT4 := hT3.chg hp4.chg (fun b hx hb => hA3 b hb hx)
        have hA4 : ∀ b, InB A4 b → ¬ X3 b := fun b hb hx => by
          rcases hp4.new b hb with h5 | h5
          · exact hA3 b h5 hx
          · have := hT3.lt hx
            omega
        have hX4 : ∀ b, X3 b → X b ∨ w1.heap.size ≤ b := fun b hx => by
          rcases hX3 b hx with h5 | h5
          · exact hXj b h5
          · exact .inr (by omega)
        have hc4 : Chg X w1 w4 := (hc.trans (G := Xj) hc3 (fun b hb hx => (hXj b hx).elim id fun h => absurd h (by omega))).trans (G := InB A) hp4.chg (fun b hb hx => absurd (hO.out.block hx).1 (by omega))
        replace hT4 := Lib.hid hT4
        replace hA4 := Lib.hid hA4
        replace hX4 := Lib.hid hX4
        replace hc4 := Lib.hid hc4
        replace hO4 := Lib.hid hO4
        clear hT3 hc3 hX3 hA3 hp4 hO3 GS hT hO hAX hXj hc c6 cS
        go_wp2_with fail
        go_roundw
        case rel => exact ⟨j + 1, A4, a4, X3, by omega, by go_num, rfl, by rw [hent.out]; exact hO4.out, by rw [hgt.out]; exact hT4.out, hA4.out, hX4.out, hc4.out⟩
        case measure => simp [intOf]; omega
      · obtain rfl : j = S.length := by omega
        have hlti : ¬ (S.length : Int) < (S.length : Int) := by omega
        rw [List.take_length] at hO hT
        have hTT : TabTo w wr g sb n c (goAll n s1 S) X := ⟨Xj, hT, hc1.trans (G := X) hc (fun _ _ h => h), fun b hx => (hXj b hx).imp id (fun h => Nat.le_trans hz1 h)⟩
        have hEl : (goEnts s S).length = S.length := by unfold goEnts; simp
        have hO5 : OwnE wr w.heap.size A a (goEnts s S) := OwnA.low hO hz1
        replace hTT := Lib.hid hTT
        replace hO5 := Lib.hid hO5
        clear hRj hO hT hc hXj hAX
        go_wp2_with fail
        go_ret2
        refine ⟨A, a, S, by rw [hev.out, he.out]; rfl, hGo.out, hO5.out, hSn.out, ?_⟩
        have h5 := hTT.out
        rw [hs1.out] at h5
        exact h5
end
end Go.Proofs.Ytmkknjhalcocmaa

namespace Go.Proofs.Ytmkknjhalcocmaa
open Go Go.RowKit Go.Deep Go.Maps Go.ChangeMaps

theorem info_pslot : (Try.prog.info? 80).map (fun i => (i.zero, i.size, i.bytes)) = some (some (.pointer none), 1, 8) := by kernel_rfl
abbrev pcell (sb : Nat) (k : Nat) : List Value := [.pointer (some ⟨sb, k * 15, none⟩)]
abbrev OwnP (w : World) (base sb : Nat) (A : Option Addr) (c : Nat) (l : List Nat) : Prop := OwnA (pcell sb) 1 80 w base A c l
theorem wpList_push_pslot {W : World} {sb : Nat} {cs : Array Value} {ops : Array Oper} {rest : List Oper} {o : Oper} {a : Act} {Q : Exit → Act → World → Prop} (hgd : o.guard = none) (s x : Operand)
    (ho : o.op = .call { callee := .builtin .append, args := #[s, x], argTypes := #[77, 77] })
    (base : Nat) (A : Option Addr) (c : Nat) (l : List Nat) (v : Nat) (n : Nat) (hn : l.length = n) (hs : a.eval s = .slice A n c) (hown : OwnP W base sb A c l) (g : Nat) (hg : g = W.heap.size) (hcs : (pcell sb v).toArray = cs)
    (hx : a.eval x = .slice (some ⟨g, 0, none⟩) 1 1) (hl : l.length ≤ 1000000) (hbase : base ≤ W.heap.size)
    (h : ∀ A' c' w', OwnP w' base sb A' c' (l ++ [v]) → Pushed W w' A A' → wpList Try.prog ops Q rest (a.put o.dst (.slice A' (n + 1) c')) w') : wpList Try.prog ops Q (o :: rest) a (W.alloc (.cells cs 80)) := by
  obtain ⟨i0, hi0, hz0, hz1, hz2⟩ := info_parts info_pslot
  exact wpList_push (pcell sb) 1 (fun _ => rfl) (fun b u hu => by
    simp at hu; subst hu; rfl) (by omega) 77 i0 _ 8 Try.underlying77 hi0 hz0 hz1 hz2 rfl (by omega) hgd s x ho base A c l v n hn hs hown g hg hcs hx hl hbase h
/-- The slots in use of which something is so. -/
def allL (E : Nat → Slt) (P : Slt → Bool) (n : Nat) : List Nat := (List.range n).filter fun k => (E k).used && P (E k)
theorem allL_succ (E : Nat → Slt) (P : Slt → Bool) (k : Nat) : allL E P (k + 1) = if ((E k).used && P (E k)) = true then allL E P k ++ [k] else allL E P k := by
  unfold allL
  rw [List.range_succ, List.filter_append]
  split
  · next h => simp only [List.filter_cons, List.filter_nil, h, if_true]
  · next h => simp only [List.filter_cons, List.filter_nil, h, if_false, List.append_nil, Bool.false_eq_true]
theorem allL_len (E : Nat → Slt) (P : Slt → Bool) (n : Nat) : (allL E P n).length ≤ n := by
  have := List.length_filter_le (fun k => (E k).used && P (E k)) (List.range n)
  unfold allL
  simpa using this
theorem live1 (x : Slt) (w : World) : Calls Try.prog 27 #[x.val] w fun e w' => e = .returned (.bool true) ∧ Below w.heap.size w w' := by
  go_enter Try.func27, Try.ntmps27
  go_wp2_with fail
  go_ret
  exact ⟨rfl, below_alloc (Below.refl _ _) _⟩
section
variable {w w1 w2 w3 : World} {g sb n r : Nat} {c : TCfg} {s s' : TSt} {X F : Nat → Prop}
set_option maxRecDepth 100000 in
set_option maxHeartbeats 4000000 in
theorem tab_all_live (h : TabP w g sb n c s X) :
    Calls Try.prog 26 #[.pointer (some ⟨g, 0, none⟩), .func (.func 27) #[] #[]] w fun e w' => ∃ (A : Option Addr) (q : Nat), e = .returned (.slice A (allL s.E (fun _ => true) n).length q) ∧ OwnP w' w.heap.size sb A q (allL s.E (fun _ => true) n) ∧ Below w.heap.size w w' := by
  obtain ⟨r1, r2, hn⟩ := h.rng
  have GV := Lib.hid (tab_given h)
  have c6 := h.cells.1
  replace h := Lib.hid h
  go_enter Try.func26, Try.ntmps26
  go_wp2_with (go_at_call 28; (with_reducible refine GV.out.mono ?_); rintro e w8 ⟨rfl, rfl⟩)
  go_loopw [5, 16] (fun ov kv wr => ∃ (k : Nat) (A : Option Addr) (a : Nat), k ≤ n ∧ kv = .int .i64 (k : Nat) ∧ ov = .slice A (allL s.E (fun _ => true) k).length a ∧ OwnP wr w.heap.size sb A a (allL s.E (fun _ => true) k) ∧ Below w.heap.size w wr) (fun _ kv _ => n - (intOf kv).toNat)
  case atStart => exact ⟨0, none, 0, by omega, rfl, rfl, OwnA.nil _ _, Below.refl _ _⟩
  case round =>
    obtain ⟨k, A, a, hk, rfl, rfl, hO, hb⟩ := hrel
    by_cases hlt : k < n
    · have hlti : (k : Int) < (n : Int) := by omega
      have hT := h.out.call hb
      have d6 := hT.cells.1
      have hC := fun j hj => hT.slot hlt j hj
      have hsu := allL_succ s.E (fun _ => true) k
      rw [Bool.and_true] at hsu
      have hll := allL_len s.E (fun _ => true) k
      generalize allL s.E (fun _ => true) k = L at *
      generalize s.E k = x at *
      have c0 : wr.cell? ⟨sb, k * 15, none⟩ = some (.int .i64 x.t.p) := hC 0 (by omega)
      have c1 : wr.cell? ⟨sb, k * 15 + 1, none⟩ = some (.bool x.t.v) := hC 1 (by omega)
      have c2 : wr.cell? ⟨sb, k * 15 + 2, none⟩ = some (.int .u64 x.t.hi) := hC 2 (by omega)
      have c3 : wr.cell? ⟨sb, k * 15 + 3, none⟩ = some (.int .u64 x.t.lo) := hC 3 (by omega)
      have c4 : wr.cell? ⟨sb, k * 15 + 4, none⟩ = some (.bool x.t.v') := hC 4 (by omega)
      have c5 : wr.cell? ⟨sb, k * 15 + 5, none⟩ = some (.int .u64 x.t.hi') := hC 5 (by omega)
      have c6 : wr.cell? ⟨sb, k * 15 + 6, none⟩ = some (.int .u64 x.t.lo') := hC 6 (by omega)
      have c7 : wr.cell? ⟨sb, k * 15 + 7, none⟩ = some (.int .i64 x.t.sp) := hC 7 (by omega)
      have c8 : wr.cell? ⟨sb, k * 15 + 8, none⟩ = some (.int .i64 x.t.dp) := hC 8 (by omega)
      have c9 : wr.cell? ⟨sb, k * 15 + 9, none⟩ = some (.int .i64 x.bk) := hC 9 (by omega)
      have c10 : wr.cell? ⟨sb, k * 15 + 10, none⟩ = some (.int .i64 x.st) := hC 10 (by omega)
      have c11 : wr.cell? ⟨sb, k * 15 + 11, none⟩ = some (.int .i64 x.sl) := hC 11 (by omega)
      have c12 : wr.cell? ⟨sb, k * 15 + 12, none⟩ = some (.int .u64 x.gen) := hC 12 (by omega)
      have c13 : wr.cell? ⟨sb, k * 15 + 13, none⟩ = some (.int .i64 x.due) := hC 13 (by omega)
      have c14 : wr.cell? ⟨sb, k * 15 + 14, none⟩ = some (.bool x.used) := hC 14 (by omega)
      have hz := hb.size
      replace hsu := Lib.hid hsu
      clear hC hT
      cases hu : x.used
      · rw [hu] at hsu c14
        go_wp2_with fail
        go_roundw
        case rel => exact ⟨k + 1, A, a, by omega, by go_num, by rw [hsu.out]; rfl, by rw [hsu.out]; exact hO, hb⟩
        case measure => simp [intOf]; omega
      · rw [hu] at hsu c14
        replace hO := Lib.hid hO
        have LV := Lib.hid (live1 x wr)
        go_wp2_with (first
          | (go_at_call 27; (with_reducible refine LV.out.mono ?_); rintro e w3 ⟨rfl, hb3⟩; have hz3 := hb3.size; have hb4 := below_chain hb3 hb; have hO3 := hO.out.call hb3)
          | (at_builtin; refine wpList_push_pslot rfl (.tmp 37) (.tmp 39) rfl w.heap.size A a L k L.length rfl rfl hO3 _ rfl rfl rfl (by omega) (by omega) ?_; intro A4 a4 w4 hO4 hp4))
        have hb5 : Below w.heap.size w w4 := hp4.below hb4 (by omega) (fun b hb => (hO3.block hb).1)
        go_roundw
        case rel => exact ⟨k + 1, A4, a4, by omega, by go_num, by rw [hsu.out, if_pos trivial, List.length_append]; rfl, by rw [hsu.out, if_pos trivial]; exact hO4, hb5⟩
        case measure => simp [intOf]; omega
    · obtain rfl : k = n := by omega
      have hlti : ¬ (k : Int) < (k : Int) := by omega
      go_wp2_with fail
      go_ret
      exact ⟨A, a, rfl, hO, hb⟩
/-- The entries of slots. -/
def entsOf (E : Nat → Slt) (L : List Nat) : List Slt := L.map E
theorem allL_lt {E : Nat → Slt} {P : Slt → Bool} {n k : Nat} (h : k ∈ allL E P n) : k < n := by
  unfold allL at h
  exact List.mem_range.1 (List.mem_filter.1 h).1
theorem pcell_map (sb : Nat) (l : List Nat) : l.flatMap (pcell sb) = l.map fun k => Value.pointer (some ⟨sb, k * 15, none⟩) := by induction l <;> simp_all
theorem pslot_at {base q : Nat} {A : Option Addr} {L : List Nat} (h : OwnP w base sb A q L) {j : Nat} (hj : j < L.length) : ∃ ad, A = some ad ∧ ad.block < w.heap.size ∧ w.cell? (ad.add j) = some (.pointer (some ⟨sb, L[j] * 15, none⟩)) := by
  have hr := h.reads
  rw [pcell_map] at hr
  obtain ⟨ad, u, h1, h2, h3, h4⟩ := hr.at_ hj
  rw [List.getElem?_map, List.getElem?_eq_getElem hj] at h3
  cases h3
  exact ⟨ad, h1, h2, h4⟩
set_option maxRecDepth 100000 in
set_option maxHeartbeats 4000000 in
theorem tab_live (h : TabP w g sb n c s X) :
    Calls Try.prog 8 #[.pointer (some ⟨g, 0, none⟩)] w fun e w' => ∃ (A : Option Addr) (q : Nat), e = .returned (.slice A (entsOf s.E (allL s.E (fun _ => true) n)).length q) ∧ OwnE w' w.heap.size A q (entsOf s.E (allL s.E (fun _ => true) n)) ∧ Below w.heap.size w w' := by
  obtain ⟨r1, r2, hn⟩ := h.rng
  have AL := Lib.hid (tab_all_live h)
  have hlt := fun j (hj : j ∈ allL s.E (fun _ => true) n) => allL_lt hj
  have hll := allL_len s.E (fun _ => true) n
  generalize allL s.E (fun _ => true) n = L at *
  replace h := Lib.hid h
  replace hlt := Lib.hid hlt
  go_enter Try.func8, Try.ntmps8
  go_wp2_with fail
  refine AL.out.mono ?_
  rintro e w1 ⟨B, q, rfl, hP, hb1⟩
  have hz1 := hb1.size
  replace hP := Lib.hid hP
  clear AL
  go_wp2_with fail
  go_loopw [3, 9] (fun ov kv wr => ∃ (k : Nat) (A : Option Addr) (a : Nat), k ≤ L.length ∧ kv = .int .i64 (k : Nat) ∧ ov = .slice A k a ∧ OwnE wr w1.heap.size A a (entsOf s.E (L.take k)) ∧ Below w1.heap.size w1 wr) (fun _ kv _ => L.length - (intOf kv).toNat)
  case atStart => exact ⟨0, none, 0, by omega, rfl, rfl, OwnA.nil _ _, Below.refl _ _⟩
  case round =>
    obtain ⟨k, A, a, hk, rfl, rfl, hO, hb⟩ := hrel
    by_cases hk2 : k < L.length
    · have hki : (k : Int) < (L.length : Int) := by omega
      obtain ⟨ad, rfl, hbl, cP⟩ := pslot_at (hP.out.call hb) hk2
      have hent : entsOf s.E (L.take (k + 1)) = entsOf s.E (L.take k) ++ [s.E L[k]] := by
        unfold entsOf
        rw [List.take_succ_eq_append_getElem hk2, List.map_append]
        rfl
      have hel : (entsOf s.E (L.take k)).length = k := by unfold entsOf; simp; omega
      have hm := hlt.out _ (List.getElem_mem hk2)
      obtain ⟨m, hme⟩ : ∃ m, L[k] = m := ⟨_, rfl⟩
      rw [hme] at cP hent hm
      have hT := h.out.call (below_chain hb hb1)
      have hC := fun j hj => hT.slot hm j hj
      generalize entsOf s.E (L.take k) = out at *
      generalize s.E m = x at *
      have c0 : wr.cell? ⟨sb, m * 15, none⟩ = some (.int .i64 x.t.p) := hC 0 (by omega)
      have c1 : wr.cell? ⟨sb, m * 15 + 1, none⟩ = some (.bool x.t.v) := hC 1 (by omega)
      have c2 : wr.cell? ⟨sb, m * 15 + 2, none⟩ = some (.int .u64 x.t.hi) := hC 2 (by omega)
      have c3 : wr.cell? ⟨sb, m * 15 + 3, none⟩ = some (.int .u64 x.t.lo) := hC 3 (by omega)
      have c4 : wr.cell? ⟨sb, m * 15 + 4, none⟩ = some (.bool x.t.v') := hC 4 (by omega)
      have c5 : wr.cell? ⟨sb, m * 15 + 5, none⟩ = some (.int .u64 x.t.hi') := hC 5 (by omega)
      have c6 : wr.cell? ⟨sb, m * 15 + 6, none⟩ = some (.int .u64 x.t.lo') := hC 6 (by omega)
      have c7 : wr.cell? ⟨sb, m * 15 + 7, none⟩ = some (.int .i64 x.t.sp) := hC 7 (by omega)
      have c8 : wr.cell? ⟨sb, m * 15 + 8, none⟩ = some (.int .i64 x.t.dp) := hC 8 (by omega)
      have c9 : wr.cell? ⟨sb, m * 15 + 9, none⟩ = some (.int .i64 x.bk) := hC 9 (by omega)
      have c10 : wr.cell? ⟨sb, m * 15 + 10, none⟩ = some (.int .i64 x.st) := hC 10 (by omega)
      have c11 : wr.cell? ⟨sb, m * 15 + 11, none⟩ = some (.int .i64 x.sl) := hC 11 (by omega)
      have c12 : wr.cell? ⟨sb, m * 15 + 12, none⟩ = some (.int .u64 x.gen) := hC 12 (by omega)
      have c13 : wr.cell? ⟨sb, m * 15 + 13, none⟩ = some (.int .i64 x.due) := hC 13 (by omega)
      have hz := hb.size
      replace hent := Lib.hid hent
      replace hme := Lib.hid hme
      replace hO := Lib.hid hO
      clear hC hT
      go_wp2_with (at_builtin; refine wpList_push_ent rfl (.tmp 13) (.tmp 18) rfl w1.heap.size A a out x k hel rfl hO.out _ rfl rfl rfl (by omega) (by omega) ?_; intro A4 a4 w4 hO4 hp4)
      have hb5 : Below w1.heap.size w1 w4 := hp4.below hb (by omega) (fun b hb => (hO.out.block hb).1)
      go_roundw
      case rel => exact ⟨k + 1, A4, a4, by omega, by go_num, rfl, by rw [hent.out]; exact hO4, hb5⟩
      case measure => simp [intOf]; omega
    · obtain rfl : k = L.length := by omega
      have hki : ¬ (L.length : Int) < (L.length : Int) := by omega
      rw [List.take_length] at hO
      have hel : (entsOf s.E L).length = L.length := by unfold entsOf; simp
      replace hO := Lib.hid hO
      go_wp2_with fail
      go_ret
      exact ⟨A, a, rfl, hO.out.low hz1, below_chain hb hb1⟩
end
end Go.Proofs.Ytmkknjhalcocmaa

namespace Go.Proofs.Ytmkknjhalcocmaa
open Go Go.RowKit Go.Deep Go.Maps Go.ChangeMaps

theorem drop1 (x : Slt) (bk : Int) (p : Nat) (w : World) (hp : w.cell? ⟨p, 0, none⟩ = some (.int .i64 bk)) : Calls Try.prog 38 #[x.val, .pointer (some ⟨p, 0, none⟩)] w fun e w' => e = .returned (.bool (x.bk == bk)) ∧ Below w.heap.size w w' := by
  have hne : ¬ p = w.heap.size := fun e => by have h := block_lt_of_cell hp; dsimp only at h; omega
  have hne2 : ¬ w.heap.size = p := fun e => hne e.symm
  go_enter Try.func38, Try.ntmps38
  go_upto_region 1 with fail
  have hb : Below w.heap.size w (w.alloc (.cells x.entA 43)) := below_alloc (Below.refl _ _) _
  have cp := (hb.cell (block_lt_of_cell hp)).trans hp
  have c9 : (w.alloc (.cells x.entA 43)).cell? ⟨w.heap.size, 9, none⟩ = some (.int .i64 x.bk) := (Blk.new w 43 x.entA).cell 9
  change Code.wp _ _ _ _ (w.alloc (.cells x.entA 43))
  generalize w.alloc (.cells x.entA 43) = w1 at *
  obtain ⟨q, hq⟩ : ∃ q, w.heap.size = q := ⟨_, rfl⟩
  rw [hq] at c9
  try rw [hq]
  replace hb := Lib.hid hb
  replace hq := Lib.hid hq
  go_wp2_with fail
  go_ret
  first | exact ⟨rfl, hb.out⟩ | exact ⟨rfl, hq.out ▸ hb.out⟩
section
variable {w w1 w2 w3 : World} {g sb n r : Nat} {c : TCfg} {s s' : TSt} {X F : Nat → Prop}
set_option maxRecDepth 100000 in
set_option maxHeartbeats 4000000 in
theorem tab_all_drop (h : TabP w g sb n c s X) (bk : Int) (p : Nat) (hp : w.cell? ⟨p, 0, none⟩ = some (.int .i64 bk)) :
    Calls Try.prog 26 #[.pointer (some ⟨g, 0, none⟩), .func (.func 38) #[] #[.pointer (some ⟨p, 0, none⟩)]] w fun e w' => ∃ (A : Option Addr) (q : Nat), e = .returned (.slice A (allL s.E (fun x => x.bk == bk) n).length q) ∧ OwnP w' w.heap.size sb A q (allL s.E (fun x => x.bk == bk) n) ∧ Below w.heap.size w w' := by
  obtain ⟨r1, r2, hn⟩ := h.rng
  have GV := Lib.hid (tab_given h)
  have c6 := h.cells.1
  replace h := Lib.hid h
  go_enter Try.func26, Try.ntmps26
  go_wp2_with (go_at_call 28; (with_reducible refine GV.out.mono ?_); rintro e w8 ⟨rfl, rfl⟩)
  go_loopw [5, 16] (fun ov kv wr => ∃ (k : Nat) (A : Option Addr) (a : Nat), k ≤ n ∧ kv = .int .i64 (k : Nat) ∧ ov = .slice A (allL s.E (fun x => x.bk == bk) k).length a ∧ OwnP wr w.heap.size sb A a (allL s.E (fun x => x.bk == bk) k) ∧ Below w.heap.size w wr) (fun _ kv _ => n - (intOf kv).toNat)
  case atStart => exact ⟨0, none, 0, by omega, rfl, rfl, OwnA.nil _ _, Below.refl _ _⟩
  case round =>
    obtain ⟨k, A, a, hk, rfl, rfl, hO, hb⟩ := hrel
    by_cases hlt : k < n
    · have hlti : (k : Int) < (n : Int) := by omega
      have hT := h.out.call hb
      have d6 := hT.cells.1
      have hC := fun j hj => hT.slot hlt j hj
      have hsu := allL_succ s.E (fun x => x.bk == bk) k
      have hll := allL_len s.E (fun x => x.bk == bk) k
      generalize allL s.E (fun x => x.bk == bk) k = L at *
      generalize s.E k = x at *
      have c0 : wr.cell? ⟨sb, k * 15, none⟩ = some (.int .i64 x.t.p) := hC 0 (by omega)
      have c1 : wr.cell? ⟨sb, k * 15 + 1, none⟩ = some (.bool x.t.v) := hC 1 (by omega)
      have c2 : wr.cell? ⟨sb, k * 15 + 2, none⟩ = some (.int .u64 x.t.hi) := hC 2 (by omega)
      have c3 : wr.cell? ⟨sb, k * 15 + 3, none⟩ = some (.int .u64 x.t.lo) := hC 3 (by omega)
      have c4 : wr.cell? ⟨sb, k * 15 + 4, none⟩ = some (.bool x.t.v') := hC 4 (by omega)
      have c5 : wr.cell? ⟨sb, k * 15 + 5, none⟩ = some (.int .u64 x.t.hi') := hC 5 (by omega)
      have c6 : wr.cell? ⟨sb, k * 15 + 6, none⟩ = some (.int .u64 x.t.lo') := hC 6 (by omega)
      have c7 : wr.cell? ⟨sb, k * 15 + 7, none⟩ = some (.int .i64 x.t.sp) := hC 7 (by omega)
      have c8 : wr.cell? ⟨sb, k * 15 + 8, none⟩ = some (.int .i64 x.t.dp) := hC 8 (by omega)
      have c9 : wr.cell? ⟨sb, k * 15 + 9, none⟩ = some (.int .i64 x.bk) := hC 9 (by omega)
      have c10 : wr.cell? ⟨sb, k * 15 + 10, none⟩ = some (.int .i64 x.st) := hC 10 (by omega)
      have c11 : wr.cell? ⟨sb, k * 15 + 11, none⟩ = some (.int .i64 x.sl) := hC 11 (by omega)
      have c12 : wr.cell? ⟨sb, k * 15 + 12, none⟩ = some (.int .u64 x.gen) := hC 12 (by omega)
      have c13 : wr.cell? ⟨sb, k * 15 + 13, none⟩ = some (.int .i64 x.due) := hC 13 (by omega)
      have c14 : wr.cell? ⟨sb, k * 15 + 14, none⟩ = some (.bool x.used) := hC 14 (by omega)
      have hz := hb.size
      have hp2 : wr.cell? ⟨p, 0, none⟩ = some (.int .i64 bk) := (hb.cell (block_lt_of_cell hp)).trans hp
      clear hC hT
      cases hu : x.used
      · rw [hu] at hsu c14
        replace hsu := Lib.hid hsu
        go_wp2_with fail
        go_roundw
        case rel => exact ⟨k + 1, A, a, by omega, by go_num, by rw [hsu.out]; rfl, by rw [hsu.out]; exact hO, hb⟩
        case measure => simp [intOf]; omega
      · rw [hu] at hsu c14
        replace hO := Lib.hid hO
        replace hp2 := Lib.hid hp2
        have LV := Lib.hid (drop1 x bk p wr hp2.out)
        rw [Bool.true_and] at hsu
        obtain ⟨bb, hbb⟩ : ∃ bb, (x.bk == bk) = bb := ⟨_, rfl⟩
        rw [hbb] at LV hsu
        replace hsu := Lib.hid hsu
        replace hbb := Lib.hid hbb
        cases bb
        · go_wp2_with (go_at_call 38; (with_reducible refine LV.out.mono ?_); rintro e w3 ⟨rfl, hb3⟩; have hb4 := below_chain hb3 hb; have hO3 := hO.out.call hb3)
          go_roundw
          case rel => exact ⟨k + 1, A, a, by omega, by go_num, by rw [hsu.out]; rfl, by rw [hsu.out]; exact hO3, hb4⟩
          case measure => simp [intOf]; omega
        · go_wp2_with (first
            | (go_at_call 38; (with_reducible refine LV.out.mono ?_); rintro e w3 ⟨rfl, hb3⟩; have hz3 := hb3.size; have hb4 := below_chain hb3 hb; have hO3 := hO.out.call hb3)
            | (at_builtin; refine wpList_push_pslot rfl (.tmp 37) (.tmp 39) rfl w.heap.size A a L k L.length rfl rfl hO3 _ rfl rfl rfl (by omega) (by omega) ?_; intro A4 a4 w4 hO4 hp4))
          have hb5 : Below w.heap.size w w4 := hp4.below hb4 (by omega) (fun b hb => (hO3.block hb).1)
          go_roundw
          case rel => exact ⟨k + 1, A4, a4, by omega, by go_num, by rw [hsu.out, if_pos trivial, List.length_append]; rfl, by rw [hsu.out, if_pos trivial]; exact hO4, hb5⟩
          case measure => simp [intOf]; omega
    · obtain rfl : k = n := by omega
      have hlti : ¬ (k : Int) < (k : Int) := by omega
      go_wp2_with fail
      go_ret
      exact ⟨A, a, rfl, hO, hb⟩
/-- A table behind some slots' entries that went. -/
def dropS (n : Nat) (s : TSt) (L : List Nat) : TSt := L.foldl (fun s k => goS n s k) s
theorem dropS_take (n : Nat) (s : TSt) {L : List Nat} {k : Nat} (hk : k < L.length) : dropS n s (L.take (k + 1)) = goS n (dropS n s (L.take k)) L[k] := by
  unfold dropS
  rw [List.take_succ_eq_append_getElem hk, List.foldl_append]
  rfl
theorem goS_sl {n : Nat} {s : TSt} {x : Nat} (h : ∀ k : Nat, k < n → (s.E k).sl = k) : ∀ k : Nat, k < n → ((goS n s x).E k).sl = k := fun k hk => by
  show (updE s.E x (clrS (s.E x)) k).sl = k
  unfold updE
  split
  · next e =>
    subst e
    exact h _ hk
  · exact h k hk
theorem dropS_sl {n : Nat} : ∀ (L : List Nat) (s : TSt), (∀ k : Nat, k < n → (s.E k).sl = k) → ∀ k : Nat, k < n → ((dropS n s L).E k).sl = k
  | [], _, h => h
  | _ :: L, _, h => dropS_sl L _ (goS_sl h)
theorem dropS_E {n : Nat} : ∀ (L : List Nat) (s : TSt) (k : Nat), k ∉ L → (dropS n s L).E k = s.E k
  | [], _, _, _ => rfl
  | x :: L, s, k, h => by
    refine (dropS_E L (goS n s x) k fun hk => h (List.mem_cons_of_mem _ hk)).trans ?_
    show updE s.E x (clrS (s.E x)) k = s.E k
    exact updE_ne _ _ (fun e => h (by rw [e]; exact List.mem_cons_self))
theorem allL_nodup (E : Nat → Slt) (P : Slt → Bool) (n : Nat) : (allL E P n).Nodup := by
  unfold allL
  exact List.Pairwise.filter _ List.nodup_range
set_option maxRecDepth 100000 in
set_option maxHeartbeats 4000000 in
theorem tab_drop (h : TabP w g sb n c s X) (hsl : ∀ k : Nat, k < n → (s.E k).sl = k) (bk : Int) :
    Calls Try.prog 16 #[.pointer (some ⟨g, 0, none⟩), .int .i64 bk] w fun e w' => ∃ (A : Option Addr) (q : Nat), e = .returned (.slice A (entsOf s.E (allL s.E (fun x => x.bk == bk) n)).length q) ∧ OwnE w' w.heap.size A q (entsOf s.E (allL s.E (fun x => x.bk == bk) n)) ∧ TabTo w w' g sb n c (dropS n s (allL s.E (fun x => x.bk == bk) n)) X := by
  obtain ⟨r1, r2, hn⟩ := h.rng
  have hXlt : ∀ b, X b → b < w.heap.size := fun b hb => h.lt hb
  have hb0 : Below w.heap.size w (w.alloc (.cells #[.int .i64 bk] 3)) := below_alloc (Below.refl _ _) _
  have AL := Lib.hid (tab_all_drop (h.call hb0) bk w.heap.size ((Blk.new w 3 #[.int .i64 bk]).cell 0))
  have hlt := fun j (hj : j ∈ allL s.E (fun x => x.bk == bk) n) => allL_lt hj
  have hll := allL_len s.E (fun x => x.bk == bk) n
  have hnd := allL_nodup s.E (fun x => x.bk == bk) n
  generalize allL s.E (fun x => x.bk == bk) n = L at *
  replace h := Lib.hid h
  replace hsl := Lib.hid hsl
  replace hlt := Lib.hid hlt
  replace hnd := Lib.hid hnd
  replace hXlt := Lib.hid hXlt
  go_enter Try.func16, Try.ntmps16
  go_wp2_with fail
  refine AL.out.mono ?_
  rintro e w1 ⟨B, q, rfl, hP, hb1⟩
  have hb2 := below_chain hb1 hb0
  have hz2 := hb2.size
  have hz0 := hb0.size
  have h1 := h.out.call hb2
  have hBn : ∀ b, InB B b → w.heap.size ≤ b := fun b hb => Nat.le_trans hz0 (hP.block hb).1
  replace hP := Lib.hid hP
  replace h1 := Lib.hid h1
  clear AL hb1
  go_wp2_with fail
  go_loopw [5, 12] (fun ov kv wr => ∃ (j : Nat) (A : Option Addr) (a : Nat) (Xj : Nat → Prop), j ≤ L.length ∧ kv = .int .i64 (j : Nat) ∧ ov = .slice A j a ∧ OwnE wr w1.heap.size A a (entsOf s.E (L.take j)) ∧ TabP wr g sb n c (dropS n s (L.take j)) Xj ∧ (∀ b, InB A b → ¬ Xj b) ∧ (∀ b, Xj b → X b ∨ w1.heap.size ≤ b) ∧ Chg X w1 wr) (fun _ kv _ => L.length - (intOf kv).toNat)
  case atStart => exact ⟨0, none, 0, X, by omega, rfl, rfl, OwnA.nil _ _, h1.out, fun b hb => absurd hb inB_none, fun b hb => .inl hb, Chg.refl _ _⟩
  case round =>
    obtain ⟨j, A, a, Xj, hj, rfl, rfl, hO, hT, hAX, hXj, hc⟩ := hrel
    have hzr := hc.size
    have hPr : OwnP wr (w.alloc (.cells #[.int .i64 bk] 3)).heap.size sb B q L := OwnA.chg hP.out hc (fun b hb hx => by have h5 := hBn b hb; have h6 := hXlt.out b hx; omega)
    by_cases hlt2 : j < L.length
    · have hlti : (j : Int) < (L.length : Int) := by omega
      obtain ⟨ad, rfl, hbl, cP⟩ := pslot_at hPr hlt2
      obtain ⟨m, hme⟩ : ∃ m, L[j] = m := ⟨_, rfl⟩
      have hmn := hlt.out _ (List.getElem_mem hlt2)
      have hgt := dropS_take n s hlt2
      have hent : entsOf s.E (L.take (j + 1)) = entsOf s.E (L.take j) ++ [s.E L[j]] := by
        unfold entsOf
        rw [List.take_succ_eq_append_getElem hlt2, List.map_append]
        rfl
      have hEm : (dropS n s (L.take j)).E L[j] = s.E L[j] := by
        refine dropS_E _ _ _ fun hx => ?_
        obtain ⟨i, hi, e2⟩ := List.getElem_of_mem hx
        rw [List.length_take] at hi
        rw [List.getElem_take] at e2
        exact (List.pairwise_iff_getElem.1 (List.nodup_iff_pairwise_ne.1 hnd.out)) i j (by omega) hlt2 (by omega) e2
      rw [hme] at cP hmn hgt hent hEm
      have GS := tab_goes2 hT m hmn (dropS_sl _ _ hsl.out m hmn)
      rw [hEm] at GS
      replace GS := Lib.hid GS
      have hlen : (entsOf s.E (L.take j)).length = j := by unfold entsOf; simp; omega
      generalize entsOf s.E (L.take j) = out at *
      generalize s.E m = x at *
      replace hgt := Lib.hid hgt
      replace hent := Lib.hid hent
      replace hEm := Lib.hid hEm
      replace hme := Lib.hid hme
      replace hO := Lib.hid hO
      replace hT := Lib.hid hT
      clear hPr
      go_wp2_with (first
        | (go_at_call 36; (with_reducible refine GS.out.mono ?_); rintro e w3 ⟨rfl, X3, hT3, hc3, hX3⟩; have hz3 := hc3.size; have hO3 := hO.out.chg hc3 hAX)
        | (at_builtin; refine wpList_push_ent rfl (.tmp 16) (.tmp 20) rfl w1.heap.size A a out x j hlen rfl hO3 _ rfl rfl rfl (by omega) (by omega) ?_; intro A4 a4 w4 hO4 hp4))
      have hA3 : ∀ b, InB A b → ¬ X3 b := fun b hb hx => by
        rcases hX3 b hx with h5 | h5
        · exact hAX b hb h5
        · have := (hO.out.block hb).2
          omega
      have hT4 := hT3.chg hp4.chg (fun b hx hb => hA3 b hb hx)
      have hA4 : ∀ b, InB A4 b → ¬ X3 b := fun b hb hx => by
        rcases hp4.new b hb with h5 | h5
        · exact hA3 b h5 hx
        · have := hT3.lt hx
          omega
      have hX4 : ∀ b, X3 b → X b ∨ w1.heap.size ≤ b := fun b hx => by
        rcases hX3 b hx with h5 | h5
        · exact hXj b h5
        · exact .inr (by omega)
      have hc4 : Chg X w1 w4 := (hc.trans (G := Xj) hc3 (fun b hb hx => (hXj b hx).elim id fun h => absurd h (by omega))).trans (G := InB A) hp4.chg (fun b hb hx => absurd (hO.out.block hx).1 (by omega))
      replace hT4 := Lib.hid hT4
      replace hA4 := Lib.hid hA4
      replace hX4 := Lib.hid hX4
      replace hc4 := Lib.hid hc4
      replace hO4 := Lib.hid hO4
      clear hT3 hc3 hX3 hA3 hp4 hO3 GS hT hO hAX hXj hc cP
      go_wp2_with fail
      go_roundw
      case rel => exact ⟨j + 1, A4, a4, X3, by omega, by go_num, rfl, by rw [hent.out]; exact hO4.out, by rw [hgt.out]; exact hT4.out, hA4.out, hX4.out, hc4.out⟩
      case measure => simp [intOf]; omega
    · obtain rfl : j = L.length := by omega
      have hlti : ¬ (L.length : Int) < (L.length : Int) := by omega
      rw [List.take_length] at hO hT
      have hTT : TabTo w wr g sb n c (dropS n s L) X := ⟨Xj, hT, (Chg.of_below hb2).trans (G := X) hc (fun _ _ h => h), fun b hx => (hXj b hx).imp id (fun h => Nat.le_trans hz2 h)⟩
      have hEl : (entsOf s.E L).length = L.length := by unfold entsOf; simp
      have hO5 : OwnE wr w.heap.size A a (entsOf s.E L) := OwnA.low hO hz2
      replace hTT := Lib.hid hTT
      replace hO5 := Lib.hid hO5
      clear hPr hO hT hc hXj hAX
      go_wp2_with fail
      go_ret
      exact ⟨A, a, rfl, hO5.out, hTT.out⟩
end
end Go.Proofs.Ytmkknjhalcocmaa

namespace Go.Proofs.Ytmkknjhalcocmaa
open Go Go.RowKit Go.Deep Go.Maps Go.ChangeMaps

theorem slots_made (w : World) (n : Nat) : Slots (w.alloc (.cells (madeCells slt0.cells.toArray (n * 15)) 76)) w.heap.size n (fun _ => slt0) := by
  refine ⟨_, Blk.new w _ _, size_madeCells _ _, fun i hi j hj => ?_⟩
  have hlt : i * 15 + j < n * 15 := by omega
  unfold madeCells
  rw [Array.getElem?_map, Array.getElem?_range, if_pos hlt]
  have hz : slt0.cells.toArray.size = 15 := rfl
  have hm : (i * 15 + j) % 15 = j := by omega
  simp only [Option.map_some, hz, hm]
  rw [List.getElem?_eq_getElem (by simpa using hj)]
  congr 1
  rw [getElem!_pos _ _ (by simpa using hj)]
  rfl
theorem info_slot : (Try.prog.info? 76).map (fun i => (i.zero, i.size, i.bytes)) = some (some (.agg slt0.cells.toArray), 15, 120) := by kernel_rfl
theorem tab_put {w : World} {sb fs wg n : Nat} {E : Nat → Slt} {L : List Int} {M : LM} {G now : Int} {F Y : Nat → Prop} (a1 a2 a3 a4 lk : Int) (hs : Slots w sb n E) (hp : StackP w fs n L F) (hw : WheelP w wg G now M Y) (d : ∀ b, F b → ¬ Y b) (d2 : ∀ b, F b ∨ Y b → b ≠ sb) (hn : n ≤ 4096) :
    TabP (w.alloc (.cells #[.int .i64 a1, .int .i64 a2, .int .i64 a3, .int .i64 a4, .pointer (some ⟨fs, 0, none⟩), .pointer (some ⟨wg, 0, none⟩), .slice (some ⟨sb, 0, none⟩) n n, .int .i64 lk] 71)) w.heap.size sb n ⟨a1, a2, a3, a4, G⟩ ⟨now, M, L, E, lk⟩ (fun b => b = w.heap.size ∨ b = sb ∨ F b ∨ Y b) := by
  have k : Chg (fun _ => False) w (w.alloc (.cells #[.int .i64 a1, .int .i64 a2, .int .i64 a3, .int .i64 a4, .pointer (some ⟨fs, 0, none⟩), .pointer (some ⟨wg, 0, none⟩), .slice (some ⟨sb, 0, none⟩) n n, .int .i64 lk] 71)) := Chg.of_below (below_alloc (Below.refl _ _) _)
  have hsl := hs.lt
  refine ⟨fs, wg, F, Y, Blk.new w _ _, hp.chg k fun _ _ h => h, hw.chg k fun _ _ h => h, hs.chg k fun h => h, fun b => Iff.rfl, d, fun b hb => ⟨fun e => ?_, d2 b hb⟩, by omega, hn⟩
  rcases hb with hb | hb
  · have := hp.lt hb
    omega
  · have := hw.lt hb
    omega
/-- Slots that have their numbers, up to one. -/
def numE (k : Nat) : Nat → Slt := fun i => if i < k then { slt0 with sl := i } else slt0
theorem numE_succ (k : Nat) : updE (numE k) k { slt0 with sl := k } = numE (k + 1) := by
  funext i
  unfold updE numE
  by_cases e : i = k
  · subst e
    rw [if_pos rfl, if_pos (by omega)]
  · rw [if_neg e]
    by_cases h : i < k
    · rw [if_pos h, if_pos (by omega)]
    · rw [if_neg h, if_neg (by omega)]
theorem numE_self (k : Nat) : numE k k = slt0 := if_neg (by omega)
theorem Slots.congr {w : World} {sb n : Nat} {E E' : Nat → Slt} (h : Slots w sb n E) (he : ∀ i, i < n → E' i = E i) : Slots w sb n E' := by
  obtain ⟨Z, h1, h2, h3⟩ := h
  exact ⟨Z, h1, h2, fun i hi j hj => by rw [he i hi]; exact h3 i hi j hj⟩
theorem TabP.congr {w : World} {g sb n : Nat} {c : TCfg} {s : TSt} {X : Nat → Prop} (h : TabP w g sb n c s X) {E' : Nat → Slt} (he : ∀ i, i < n → E' i = s.E i) : TabP w g sb n c { s with E := E' } X := by
  obtain ⟨fs, wg, F', Y, h1, h2, h3, h4, h5⟩ := h
  exact ⟨fs, wg, F', Y, h1, h2, h3, h4.congr he, h5⟩
set_option maxRecDepth 100000 in
set_option maxHeartbeats 4000000 in
theorem tab_new (b : Nat) (hb : b ≤ 12) (a1 a2 a3 a4 : Int) (hr : rightS a1 a2 a3 a4 = true) (G : Int) (hG : 1 ≤ G ∧ G ≤ 1024) (w : World) :
    Calls Try.prog 7 #[.int .i64 b, .agg #[.int .i64 a1, .int .i64 a2, .int .i64 a3, .int .i64 a4], .int .i64 G] w fun e w' => ∃ g sb X, e = .returned (.tuple #[.pointer (some ⟨g, 0, none⟩), .int .i64 0]) ∧ TabP w' g sb (2 ^ b) ⟨a1, a2, a3, a4, G⟩ ⟨0, [], upto (2 ^ b) 0, fun k => { slt0 with sl := k }, 0⟩ X ∧ Below w.heap.size w w' ∧ ∀ b, X b → w.heap.size ≤ b := by
  obtain ⟨n, hn⟩ : ∃ n, 2 ^ b = n := ⟨_, rfl⟩
  have hn2 : n ≤ 4096 := by rw [← hn]; exact Nat.le_trans (Nat.pow_le_pow_right (by omega) hb) (by decide)
  have hsh : IntKind.i64.wrap (2 ^ b) = (n : Int) := by
    have e : ((2 : Int) ^ b) = (n : Int) := by rw [← hn]; simp
    rw [e]
    simp [IntKind.wrap, IntKind.bits, IntKind.signed]
    omega
  rw [hn]
  have x1 : ¬ 12 < b := by omega
  have WN := Lib.hid fun W => wheelp_new G W hG
  have RT := Lib.hid fun W => right_any a1 a2 a3 a4 W
  rw [hr] at RT
  replace hn := Lib.hid hn
  go_enter Try.func7, Try.ntmps7
  go_upto_region 1 with fail
  have R0 := Blk.new w 29 #[.int .i64 a1, .int .i64 a2, .int .i64 a3, .int .i64 a4]
  have hb0 : Below w.heap.size w (w.alloc (.cells #[.int .i64 a1, .int .i64 a2, .int .i64 a3, .int .i64 a4] 29)) := below_alloc (Below.refl _ _) _
  generalize w.alloc (.cells #[.int .i64 a1, .int .i64 a2, .int .i64 a3, .int .i64 a4] 29) = w0 at *
  have hr0 : w.heap.size ≤ w.heap.size := Nat.le_refl _
  obtain ⟨r, hrr⟩ : ∃ r, w.heap.size = r := ⟨_, rfl⟩
  rw [hrr] at R0
  try rw [hrr]
  go_wp2_with fail
  refine (WN.out _).mono ?_
  rintro e w1 ⟨wg, Y, rfl, hW, hb1, hY⟩
  have R1 := R0.call hb1
  have c0 := R1.cell 0
  have c1 := R1.cell 1
  have c2 := R1.cell 2
  have c3 := R1.cell 3
  simp at c0 c1 c2 c3
  have x2 : decide (12 < b) = false := by simp; omega
  go_upto_region 4 with (go_at_call 24; (with_reducible refine (RT.out _).mono ?_); rintro e w2 ⟨rfl, hb2⟩)
  obtain ⟨i0, hi0, hz0, hz1, hz2⟩ := info_parts info_slot
  have hmk : ∀ W : World, (Instr.makeSlice 69 (.int .i64 (n : Int)) (.int .i64 (n : Int))).run Try.prog W = .ok (.slice (some ⟨W.heap.size, 0, none⟩) n n) (W.alloc (.cells (madeCells slt0.cells.toArray (n * 15)) 76)) := fun W => by
    have := run_make (P := Try.prog) W 69 76 i0 _ Try.underlying69 hi0 hz0 .i64 .i64 n n (by omega) (by omega) (by rw [hz2]; omega) (by omega)
    rw [hz1] at this
    exact this
  have SN := Lib.hid fun W => new_yes n W hn2
  have d0 := (hb2.cell (block_lt_of_cell c0)).trans c0
  have d1 := (hb2.cell (block_lt_of_cell c1)).trans c1
  have d2 := (hb2.cell (block_lt_of_cell c2)).trans c2
  have d3 := (hb2.cell (block_lt_of_cell c3)).trans c3
  clear c0 c1 c2 c3 R0 hi0 hz0 hz1 hz2
  have HA := Lib.hid fun (W : World) (o : Obj) (h : Below w2.heap.size w2 W ∧ W.cell? ⟨r, 0, none⟩ = some (.int .i64 a1) ∧ W.cell? ⟨r, 1, none⟩ = some (.int .i64 a2) ∧ W.cell? ⟨r, 2, none⟩ = some (.int .i64 a3) ∧ W.cell? ⟨r, 3, none⟩ = some (.int .i64 a4)) => hold4 h (below_alloc (Below.refl W.heap.size W) o)
  have W2 := Lib.hid fun W (h : Below w2.heap.size w2 W) => (hW.chg (F := fun _ => False) (Chg.of_below hb2) (fun _ _ h => h)).chg (F := fun _ => False) (Chg.of_below h) (fun _ _ h => h)
  have hYl : ∀ b, Y b → w0.heap.size ≤ b ∧ b < w2.heap.size := fun b hb => by have := hW.lt hb; have := hY b hb; have := hb2.size; omega
  have hb02 : Below w.heap.size w w2 := below_chain hb2 (below_chain hb1 hb0)
  replace hYl := Lib.hid hYl
  replace hb02 := Lib.hid hb02
  have hz2 := hb02.out.size
  have hz0 := hb0.size
  clear hW hY R1 hb0 hb1 hb2
  go_region_held3 (fun W => Below w2.heap.size w2 W ∧ W.cell? ⟨r, 0, none⟩ = some (.int .i64 a1) ∧ W.cell? ⟨r, 1, none⟩ = some (.int .i64 a2) ∧ W.cell? ⟨r, 2, none⟩ = some (.int .i64 a3) ∧ W.cell? ⟨r, 3, none⟩ = some (.int .i64 a4)) (first | ((first | assumption | ((refine ⟨?_, ?_⟩; (first | assumption | exact (Below.refl _ _).drew | exact Below.refl _ _); go_keep)))) | exact HA.out _ _ (by assumption)) (first
    | (go_at_call 25; (with_reducible refine (SN.out _).mono ?_); rintro e w3 ⟨fs, F3, rfl, hP3, hb3, hF3⟩; have hS3 := hold4 (by assumption) hb3))
  all_goals have hYl2 := hYl.out
  case' refine_2.refine_3.refine_3.refine_3.refine_3.refine_3.refine_3.refine_1.refine_2.refine_1.refine_2.refine_3.refine_1.refine_2.refine_3 =>
    have hF3 : ∀ b, F3 b → w2.heap.size ≤ b := hF3
    have hba := below_alloc (Below.refl w3.heap.size w3) (.cells (madeCells slt0.cells.toArray (n * 15)) 76)
    have hT := tab_put a1 a2 a3 a4 0 (slots_made w3 n) (hP3.chg (G := fun _ => False) (Chg.of_below hba) (fun _ _ h => h)) (W2.out _ (below_chain hba hS3.1)) (fun b hF hY => by have := hF3 b hF; have := hYl2 b hY; omega) (fun b hb => by
      have hz := hS3.1.size
      rcases hb with hb | hb
      · have := hP3.lt hb
        omega
      · have := hYl2 b hb
        omega) hn2
    rw [World.size_alloc] at hT
    have hbW : Below w.heap.size w _ := below_chain (below_alloc (Below.refl _ _) (.cells #[.int .i64 a1, .int .i64 a2, .int .i64 a3, .int .i64 a4, .pointer (some ⟨fs, 0, none⟩), .pointer (some ⟨wg, 0, none⟩), .slice (some ⟨w3.heap.size, 0, none⟩) n n, .int .i64 0] 71)) (below_chain hba (below_chain hS3.1 hb02.out))
    have hXn : ∀ b, (b = w3.heap.size + 1 ∨ b = w3.heap.size ∨ F3 b ∨ Y b) → w.heap.size ≤ b := fun b hb => by
      have hz := hS3.1.size
      rcases hb with hb | hb | hb | hb
      · omega
      · omega
      · have := hF3 b hb
        omega
      · have := hYl2 b hb
        omega
    generalize (w3.alloc (.cells (madeCells slt0.cells.toArray (n * 15)) 76)).alloc (.cells #[.int .i64 a1, .int .i64 a2, .int .i64 a3, .int .i64 a4, .pointer (some ⟨fs, 0, none⟩), .pointer (some ⟨wg, 0, none⟩), .slice (some ⟨w3.heap.size, 0, none⟩) n n, .int .i64 0] 71) = w4 at *
    generalize hX : (fun b => b = w3.heap.size + 1 ∨ b = w3.heap.size ∨ F3 b ∨ Y b) = X at *
    generalize hg : w3.heap.size + 1 = g at *
    generalize hsb : w3.heap.size = sb at *
  case' refine_2.refine_3.refine_3.refine_3.refine_3.refine_3.refine_3.refine_2.refine_1.refine_2.refine_1.refine_2.refine_3.refine_1.refine_2.refine_3 =>
    have hF3 : ∀ b, F3 b → (w2.alloc (.cells (madeCells slt0.cells.toArray (n * 15)) 76)).heap.size ≤ b := hF3
    rw [World.size_alloc] at hF3
    have hSl : Slots (w2.alloc (.cells (madeCells slt0.cells.toArray (n * 15)) 76)).drew w2.heap.size n (fun _ => slt0) := slots_made w2 n
    have hz3 : w2.heap.size + 1 ≤ w3.heap.size := by
      have h5 : (w2.alloc (.cells (madeCells slt0.cells.toArray (n * 15)) 76)).heap.size ≤ w3.heap.size := hb3.size
      rw [World.size_alloc] at h5
      exact h5
    have hT := tab_put a1 a2 a3 a4 0 (hSl.chg (F := fun _ => False) (Chg.of_below hb3) (fun h => h)) hP3 (W2.out _ hS3.1) (fun b hF hY => by have := hF3 b hF; have := hYl2 b hY; omega) (fun b hb => by
      rcases hb with hb | hb
      · have := hF3 b hb
        omega
      · have := hYl2 b hb
        omega) hn2
    have hbW : Below w.heap.size w _ := below_chain (below_alloc (Below.refl _ _) (.cells #[.int .i64 a1, .int .i64 a2, .int .i64 a3, .int .i64 a4, .pointer (some ⟨fs, 0, none⟩), .pointer (some ⟨wg, 0, none⟩), .slice (some ⟨w2.heap.size, 0, none⟩) n n, .int .i64 0] 71)) (below_chain hS3.1 hb02.out)
    have hXn : ∀ b, (b = w3.heap.size ∨ b = w2.heap.size ∨ F3 b ∨ Y b) → w.heap.size ≤ b := fun b hb => by
      rcases hb with hb | hb | hb | hb
      · omega
      · omega
      · have := hF3 b hb
        omega
      · have := hYl2 b hb
        omega
    generalize w3.alloc (.cells #[.int .i64 a1, .int .i64 a2, .int .i64 a3, .int .i64 a4, .pointer (some ⟨fs, 0, none⟩), .pointer (some ⟨wg, 0, none⟩), .slice (some ⟨w2.heap.size, 0, none⟩) n n, .int .i64 0] 71) = w4 at *
    generalize hX : (fun b => b = w3.heap.size ∨ b = w2.heap.size ∨ F3 b ∨ Y b) = X at *
    generalize hg : w3.heap.size = g at *
    generalize hsb : w2.heap.size = sb at *
  all_goals
    have hXn2 : ∀ b, X b → w.heap.size ≤ b := by rw [← hX]; exact hXn
    have c6 := hT.cells.1
    replace hXn2 := Lib.hid hXn2
    replace hbW := Lib.hid hbW
    replace hT := Lib.hid hT
    clear HA W2 SN RT WN hmk hXn hX hS3 hP3 hF3 hb3 d0 d1 d2 d3 hYl2
    go_wp2_with fail
    go_loopw [43] (fun kv wr => ∃ k : Nat, k ≤ n ∧ kv = .int .i64 (k : Nat) ∧ TabP wr g sb n ⟨a1, a2, a3, a4, G⟩ ⟨0, [], upto n 0, numE k, 0⟩ X ∧ Below w.heap.size w wr) (fun kv _ => n - (intOf kv).toNat)
    case atStart => exact ⟨0, by omega, rfl, hT.out, hbW.out⟩
    case round =>
      obtain ⟨k, hk, rfl, hA, hb⟩ := hrel
      by_cases hlt : k < n
      · have hlti : (k : Int) < (n : Int) := by omega
        have d6 := hA.cells.1
        have f11 := hA.slotf (k * 15 + 11)
        have c11 := (hA.slot hlt 11 (by omega)).trans rfl
        simp [numE_self] at c11
        have h1 := hA.setE hlt 11 (by omega) (.int .i64 (k : Int)) { slt0 with sl := k } (by simp [numE_self, slt0])
        rw [numE_succ] at h1
        have h2 := hb.setCell (p := ⟨sb, k * 15 + 11, none⟩) (hXn2.out _ hA.sbX) (.int .i64 (k : Int))
        replace h1 := Lib.hid h1
        replace h2 := Lib.hid h2
        replace hA := Lib.hid hA
        replace hb := Lib.hid hb
        go_wp2_with fail
        go_roundw
        case rel => exact ⟨k + 1, by omega, by go_num, h1.out, h2.out⟩
        case measure => simp [intOf]; omega
      · obtain rfl : k = n := by omega
        have hlti : ¬ (k : Int) < (k : Int) := by omega
        have h1 := hA.congr (E' := fun k => { slt0 with sl := k }) (fun i hi => by show _ = numE k i; unfold numE; rw [if_pos hi])
        replace h1 := Lib.hid h1
        replace hA := Lib.hid hA
        replace hb := Lib.hid hb
        go_wp2_with fail
        go_ret2
        first | exact ⟨g, sb, X, rfl, h1.out, hrr ▸ hb.out, hrr ▸ hXn2.out⟩ | exact ⟨g, rfl, sb, X, h1.out, hrr ▸ hb.out, hrr ▸ hXn2.out⟩
end Go.Proofs.Ytmkknjhalcocmaa

namespace Go.Proofs.Ytmkknjhalcocmaa
open Go Go.RowKit Go.Deep Go.Maps Go.ChangeMaps

theorem lmIns_perm (x : Int × Int) : ∀ M : LM, (lmIns x M).Perm (x :: M)
  | [] => List.Perm.refl _
  | y :: r => by
    unfold lmIns
    split
    · exact List.Perm.refl _
    · exact ((lmIns_perm x r).cons y).trans (List.Perm.swap x y r)
theorem lmDel_nd {M : LM} (h : (M.map (·.1)).Nodup) (id : Int) : ((lmDel M id).map (·.1)).Nodup := by
  unfold lmDel
  exact h.sublist (List.filter_sublist.map _)
theorem lmPut_nd {M : LM} (h : (M.map (·.1)).Nodup) (id v : Int) : ((lmPut M id v).map (·.1)).Nodup := by
  unfold lmPut
  rw [((lmIns_perm (id, v) (lmDel M id)).map _).nodup_iff, List.map_cons, List.nodup_cons]
  refine ⟨fun hx => ?_, lmDel_nd h id⟩
  obtain ⟨y, hy, e⟩ := List.mem_map.1 hx
  have := (List.mem_filter.1 hy).2
  simp [e] at this
theorem lmHas_put {M : LM} {id v x : Int} : lmHas (lmPut M id v) x = true ↔ x = id ∨ lmHas M x = true := by
  unfold lmPut
  rw [lmHas_ins, lmHas_del]
  constructor
  · rintro (h | h)
    · exact .inl h
    · exact .inr h.1
  · rintro (h | h)
    · exact .inl h
    · by_cases e : x = id
      · exact .inl e
      · exact .inr ⟨h, e⟩
theorem lmHas_mem {M : LM} {x : Int} : lmHas M x = true ↔ x ∈ M.map (·.1) := by
  rw [lmHas_iff, List.mem_map]
theorem wrap64_rng (x : Int) : 0 ≤ IntKind.u64.wrap x ∧ IntKind.u64.wrap x < 18446744073709551616 := by
  simp [IntKind.wrap, IntKind.bits, IntKind.signed]
  omega
/-- Which tuples a connection may have. -/
def tupW (t : Tup) : Prop := tupOk t = true ∧ (t.p = 17 ∨ t.p = 6)
/-- What stays true of a table. -/
structure TI (n : Nat) (s : TSt) : Prop where
  sl : ∀ k : Nat, k < n → (s.E k).sl = k
  nd : s.L.Nodup
  rng : ∀ x ∈ s.L, 0 ≤ x ∧ x < n
  used : ∀ k : Nat, k < n → ((s.E k).used = true ↔ (k : Int) ∉ s.L)
  has : ∀ x : Int, lmHas s.M x = true ↔ 0 ≤ x ∧ x < n ∧ (s.E x.toNat).used = true
  get : ∀ k : Nat, k < n → (s.E k).used = true → lmGet s.M k = (s.E k).due
  mnd : (s.M.map (·.1)).Nodup
  tup : ∀ k : Nat, k < n → (s.E k).used = true → tupW (s.E k).t
  gr : ∀ k : Nat, k < n → 0 ≤ (s.E k).gen ∧ (s.E k).gen < 18446744073709551616
section
variable {n : Nat} {s : TSt} {c : TCfg}
theorem TI.mlen (h : TI n s) : s.M.length ≤ n := by
  have := nodup_len n (s.M.map (·.1)) h.mnd fun x hx => by
    have := (h.has x).1 (lmHas_mem.2 hx)
    omega
  rwa [List.length_map] at this
theorem TI.mlen5 (h : TI n s) (hn : n ≤ 4096) : s.M.length ≤ 100000 := by have := h.mlen; omega
theorem TI.hasN (h : TI n s) : ∀ x, lmHas s.M x = true → 0 ≤ x ∧ x < n := fun x hx => by
  have := (h.has x).1 hx
  omega
theorem TI.new (n : Nat) : TI n ⟨0, [], upto n 0, fun k => { slt0 with sl := k }, 0⟩ where
  sl := fun k hk => rfl
  nd := by
    show (upto n 0).Nodup
    unfold upto
    simp only [List.Nodup, List.pairwise_map]
    exact List.Pairwise.imp (fun h e => h (by omega)) (List.nodup_range (n := n - 0))
  rng := fun x hx => by have := mem_upto hx; omega
  used := fun k hk => by
    constructor
    · intro h
      cases h
    · intro h
      exact absurd (show (k : Int) ∈ upto n 0 by
        unfold upto
        exact List.mem_map.2 ⟨k, List.mem_range.2 (by omega), by simp⟩) h
  has := fun x => by
    constructor
    · intro h
      cases h
    · rintro ⟨-, -, h⟩
      cases h
  get := fun k hk h => by cases h
  mnd := List.nodup_nil
  tup := fun k hk h => by cases h
  gr := fun k hk => by show (0 : Int) ≤ 0 ∧ (0 : Int) < 18446744073709551616; omega
theorem TI.lk (h : TI n s) (l : Int) : TI n { s with lk := l } := ⟨h.sl, h.nd, h.rng, h.used, h.has, h.get, h.mnd, h.tup, h.gr⟩
theorem TI.look (h : TI n s) (i : Int) : TI n (lookS n i s) := by
  unfold lookS
  split
  · exact h.lk _
  · exact h
theorem TI.now (h : TI n s) (t : Int) : TI n { s with now := t } := ⟨h.sl, h.nd, h.rng, h.used, h.has, h.get, h.mnd, h.tup, h.gr⟩
theorem pushL_used (h : TI n s) {k : Nat} (hk : k < n) (hu : (s.E k).used = true) : pushL n s.L k = (k : Int) :: s.L := by
  have h1 := (h.used k hk).1 hu
  unfold pushL pushOk inB
  simp [h1, hk]
/-- An entry goes. -/
theorem TI.gone (h : TI n s) {k : Nat} (hk : k < n) (hu : (s.E k).used = true) : TI n (goS n s k) where
  sl := goS_sl h.sl
  nd := by
    show (pushL n s.L k).Nodup
    rw [pushL_used h hk hu, List.nodup_cons]
    exact ⟨(h.used k hk).1 hu, h.nd⟩
  rng := fun x hx => by
    have hx : x ∈ pushL n s.L k := hx
    rw [pushL_used h hk hu, List.mem_cons] at hx
    rcases hx with rfl | hx
    · omega
    · exact h.rng x hx
  used := fun j hj => by
    show (updE s.E k (clrS (s.E k)) j).used = true ↔ (j : Int) ∉ pushL n s.L k
    rw [pushL_used h hk hu, List.mem_cons]
    by_cases e : j = k
    · subst e
      rw [updE_self]
      constructor
      · intro h
        cases h
      · exact fun h => absurd (.inl rfl) h
    · rw [updE_ne _ _ e, h.used j hj]
      have : ¬ (j : Int) = (k : Int) := by omega
      simp [this]
  has := fun x => by
    show lmHas (lmDel s.M k) x = true ↔ 0 ≤ x ∧ x < n ∧ (updE s.E k (clrS (s.E k)) x.toNat).used = true
    rw [lmHas_del, h.has]
    by_cases e : x = (k : Int)
    · subst e
      rw [Int.toNat_natCast, updE_self]
      constructor
      · exact fun h => absurd rfl h.2
      · rintro ⟨-, -, h⟩
        cases h
    · constructor
      · rintro ⟨⟨a, b, d⟩, -⟩
        refine ⟨a, b, ?_⟩
        rwa [updE_ne _ _ (show x.toNat ≠ k by omega)]
      · rintro ⟨a, b, d⟩
        rw [updE_ne _ _ (show x.toNat ≠ k by omega)] at d
        exact ⟨⟨a, b, d⟩, e⟩
  get := fun j hj hu2 => by
    have hu2 : (updE s.E k (clrS (s.E k)) j).used = true := hu2
    show lmGet (lmDel s.M k) j = (updE s.E k (clrS (s.E k)) j).due
    by_cases e : j = k
    · subst e
      rw [updE_self] at hu2
      cases hu2
    · rw [updE_ne _ _ e] at hu2 ⊢
      rw [lmGet_del (by omega)]
      exact h.get j hj hu2
  mnd := lmDel_nd h.mnd _
  tup := fun j hj hu2 => by
    have hu2 : (updE s.E k (clrS (s.E k)) j).used = true := hu2
    show tupW (updE s.E k (clrS (s.E k)) j).t
    by_cases e : j = k
    · subst e
      rw [updE_self] at hu2
      cases hu2
    · rw [updE_ne _ _ e] at hu2 ⊢
      exact h.tup j hj hu2
  gr := fun j hj => by
    show 0 ≤ (updE s.E k (clrS (s.E k)) j).gen ∧ (updE s.E k (clrS (s.E k)) j).gen < 18446744073709551616
    by_cases e : j = k
    · subst e
      rw [updE_self]
      exact wrap64_rng _
    · rw [updE_ne _ _ e]
      exact h.gr j hj
/-- An entry comes, or is told anew. -/
theorem TI.put (h : TI n s) {k : Nat} (hk : k < n) {x : Slt} {l : List Int} {lk : Int} (hl : s.L = (k : Int) :: l ∨ (s.E k).used = true ∧ s.L = l) (hx : x.used = true) (hs : x.sl = k) (ht : tupW x.t) (hg : x.gen = (s.E k).gen) :
    TI n { s with L := l, E := updE s.E k x, M := lmPut s.M k x.due, lk := lk } := by
  have hnl : (k : Int) ∉ l := by
    rcases hl with hl | ⟨hu, rfl⟩
    · have := h.nd
      rw [hl, List.nodup_cons] at this
      exact this.1
    · exact (h.used k hk).1 hu
  have hmem : ∀ j : Nat, j ≠ k → ((j : Int) ∈ l ↔ (j : Int) ∈ s.L) := fun j hj => by
    rcases hl with hl | ⟨hu, rfl⟩
    · rw [hl, List.mem_cons]
      have : ¬ (j : Int) = (k : Int) := by omega
      simp [this]
    · exact Iff.rfl
  have hsub : ∀ y ∈ l, y ∈ s.L := fun y hy => by
    rcases hl with hl | ⟨hu, rfl⟩
    · rw [hl]
      exact List.mem_cons_of_mem _ hy
    · exact hy
  refine ⟨fun j hj => ?_, ?_, fun y hy => h.rng y (hsub y hy), fun j hj => ?_, fun y => ?_, fun j hj hu => ?_, lmPut_nd h.mnd _ _, fun j hj hu => ?_, fun j hj => ?_⟩
  · show (updE s.E k x j).sl = j
    by_cases e : j = k
    · subst e
      rw [updE_self, hs]
    · rw [updE_ne _ _ e, h.sl j hj]
  · show l.Nodup
    rcases hl with hl | ⟨hu, rfl⟩
    · have := h.nd
      rw [hl, List.nodup_cons] at this
      exact this.2
    · exact h.nd
  · show (updE s.E k x j).used = true ↔ (j : Int) ∉ l
    by_cases e : j = k
    · subst e
      rw [updE_self, hx]
      simp [hnl]
    · rw [updE_ne _ _ e, h.used j hj, hmem j e]
  · show lmHas (lmPut s.M k x.due) y = true ↔ 0 ≤ y ∧ y < n ∧ (updE s.E k x y.toNat).used = true
    rw [lmHas_put, h.has]
    by_cases e : y = (k : Int)
    · subst e
      rw [Int.toNat_natCast, updE_self, hx]
      exact ⟨fun _ => ⟨by omega, by omega, rfl⟩, fun _ => .inl rfl⟩
    · constructor
      · rintro (a | ⟨a, b, d⟩)
        · exact absurd a e
        · refine ⟨a, b, ?_⟩
          rwa [updE_ne _ _ (show y.toNat ≠ k by omega)]
      · rintro ⟨a, b, d⟩
        rw [updE_ne _ _ (show y.toNat ≠ k by omega)] at d
        exact .inr ⟨a, b, d⟩
  · have hu : (updE s.E k x j).used = true := hu
    show lmGet (lmPut s.M k x.due) j = (updE s.E k x j).due
    by_cases e : j = k
    · subst e
      rw [updE_self, lmGet_put]
    · rw [updE_ne _ _ e] at hu ⊢
      rw [wGet_put (by omega)]
      exact h.get j hj hu
  · have hu : (updE s.E k x j).used = true := hu
    show tupW (updE s.E k x j).t
    by_cases e : j = k
    · subst e
      rw [updE_self]
      exact ht
    · rw [updE_ne _ _ e] at hu ⊢
      exact h.tup j hj hu
  · show 0 ≤ (updE s.E k x j).gen ∧ (updE s.E k x j).gen < 18446744073709551616
    by_cases e : j = k
    · subst e
      rw [updE_self, hg]
      exact h.gr j hj
    · rw [updE_ne _ _ e]
      exact h.gr j hj
/-! Many entries that go. -/
theorem dropS_eq (s : TSt) (L : List Nat) : dropS n s L = goAll n s (L.map fun k : Nat => (k : Int)) := by
  unfold dropS goAll
  rw [List.foldl_map]
  rfl
theorem goAll_cons (s : TSt) (x : Int) (S : List Int) : goAll n s (x :: S) = goAll n (goS n s x.toNat) S := rfl
theorem TI.all : ∀ (S : List Int) {s : TSt}, TI n s → S.Nodup → (∀ x ∈ S, 0 ≤ x ∧ x < n ∧ (s.E x.toNat).used = true) → TI n (goAll n s S) ∧ (∀ k : Nat, (goAll n s S).E k = if (k : Int) ∈ S then clrS (s.E k) else s.E k) ∧ (goAll n s S).M = delAll s.M S ∧ (goAll n s S).L = S.reverse ++ s.L ∧ (goAll n s S).now = s.now ∧ (goAll n s S).lk = s.lk
  | [], s, h, _, _ => ⟨h, fun k => by simp [goAll], rfl, by simp [goAll], rfl, rfl⟩
  | x :: S, s, h, hn, hx => by
    obtain ⟨a, b, d⟩ := hx x List.mem_cons_self
    rw [List.nodup_cons] at hn
    obtain ⟨k, rfl⟩ : ∃ k : Nat, x = (k : Int) := ⟨x.toNat, by omega⟩
    rw [Int.toNat_natCast] at d
    have h2 := h.gone (k := k) (by omega) d
    have hE : ∀ j : Nat, j ≠ k → (goS n s k).E j = s.E j := fun j hj => updE_ne _ _ hj
    have ih := TI.all S h2 hn.2 fun y hy => by
      obtain ⟨a2, b2, d2⟩ := hx y (List.mem_cons_of_mem _ hy)
      have hne : y ≠ (k : Int) := fun e => hn.1 (e ▸ hy)
      rw [hE y.toNat (by omega)]
      exact ⟨a2, b2, d2⟩
    rw [goAll_cons, Int.toNat_natCast]
    refine ⟨ih.1, fun j => ?_, ?_, ?_, ih.2.2.2.2.1, ih.2.2.2.2.2⟩
    · rw [ih.2.1 j]
      by_cases e : j = k
      · subst e
        rw [if_neg hn.1, if_pos List.mem_cons_self]
        exact updE_self _ _ _
      · rw [hE j e]
        have : ¬ (j : Int) = (k : Int) := by omega
        simp only [List.mem_cons, this, false_or]
    · rw [ih.2.2.1]
      rfl
    · rw [ih.2.2.2.1]
      show S.reverse ++ pushL n s.L k = _
      rw [pushL_used h (by omega) d]
      simp
theorem goAll_M : ∀ (S : List Int) (s : TSt) (M' : LM), (∀ x ∈ S, 0 ≤ x) → goAll n { s with M := M' } S = { goAll n s S with M := delAll M' S }
  | [], _, _, _ => rfl
  | x :: S, s, M', h => by
    have hx := h x List.mem_cons_self
    rw [goAll_cons, goAll_cons]
    refine Eq.trans ?_ (goAll_M S (goS n s x.toNat) (lmDel M' x) fun y hy => h y (List.mem_cons_of_mem _ hy))
    congr 1
    unfold goS
    rw [Int.toNat_of_nonneg hx]
theorem delAll_same : ∀ (S : List Int) (M : LM), (∀ x ∈ S, ¬ lmHas M x = true) → delAll M S = M
  | [], _, _ => rfl
  | x :: S, M, h => by
    unfold delAll
    rw [lmDel_same (by simpa using h x List.mem_cons_self)]
    exact delAll_same S M fun y hy => h y (List.mem_cons_of_mem _ hy)
/-! The calls. -/
theorem lookS_L (n : Nat) (i : Int) (s : TSt) : (lookS n i s).L = s.L := by
  unfold lookS
  split <;> rfl
theorem TI.close (h : TI n s) (i : Int) : TI n (closeS n s i) := by
  unfold closeS
  split
  · next hc =>
    unfold closeOk lookOk at hc
    rw [Bool.and_eq_true, decide_eq_true_eq] at hc
    exact (h.look i).gone (by omega) (by rw [lookS_E]; exact hc.2)
  · exact h.look i
theorem lookS_eq (n : Nat) (i : Int) (s : TSt) : lookS n i s = { s with lk := (lookS n i s).lk } := by
  unfold lookS
  split <;> rfl
theorem touch_gone (i fl : Int) : goS n (touchS1 n s i fl) i.toNat = goS n (lookS n i s) i.toNat := by
  unfold goS touchS1
  simp only [updE_self, updE_updE, lookS_E]
  rfl
theorem closeOk_iff {i : Int} : closeOk n s i = true ↔ ∃ k : Nat, i = (k : Int) ∧ k < n ∧ (s.E k).used = true := by
  unfold closeOk lookOk
  rw [Bool.and_eq_true, decide_eq_true_eq]
  constructor
  · rintro ⟨a, b⟩
    exact ⟨i.toNat, by omega, by omega, b⟩
  · rintro ⟨k, rfl, a, b⟩
    rw [Int.toNat_natCast]
    exact ⟨by omega, b⟩
theorem closeS_yes {i : Int} (h : closeOk n s i = true) : closeS n s i = goS n (lookS n i s) i.toNat := by
  unfold closeS
  rw [h]
  rfl
theorem closeS_no {i : Int} (h : closeOk n s i = false) : closeS n s i = lookS n i s := by
  unfold closeS
  rw [h]
  rfl
theorem touchS_no {i fl : Int} (h : closeOk n s i = false) : touchS c n s i fl = lookS n i s := by
  unfold touchS
  rw [h]
  rfl
theorem touchS_gone {i fl : Int} (h : closeOk n s i = true) (h4 : nextS (s.E i.toNat).st fl = 4) : touchS c n s i fl = goS n (lookS n i s) i.toNat := by
  unfold touchS
  rw [h, if_pos rfl, if_pos h4, touch_gone]
theorem touchV_stay {i fl : Int} (h : closeOk n s i = true) (h4 : nextS (s.E i.toNat).st fl ≠ 4) : touchV c n s i fl = { nextT (s.E i.toNat) fl with due := dueT c s.now (nextS (s.E i.toNat).st fl) } := by
  unfold touchV
  rw [h, if_pos rfl, if_neg h4]
theorem touchS_stay {i fl : Int} (h : closeOk n s i = true) (h4 : nextS (s.E i.toNat).st fl ≠ 4) : touchS c n s i fl = { s with E := updE s.E i.toNat (touchV c n s i fl), M := lmPut s.M i.toNat (touchV c n s i fl).due, lk := (lookS n i s).lk } := by
  rw [touchV_stay h h4]
  unfold touchS
  rw [h, if_pos rfl, if_neg h4]
  unfold awaitS touchS1
  simp only [updE_self, updE_updE]
  rw [lookS_eq]
  rfl
theorem openS_no {t : Tup} {bk fl : Int} (h : openOk t bk fl = false) : openS c n s t bk fl = s := by
  unfold openS
  rw [h]
  rfl
theorem openS_full {t : Tup} {bk fl : Int} (h : s.L = []) : openS c n s t bk fl = s := by
  unfold openS
  split
  · rw [h]
  · rfl
theorem openV_yes {t : Tup} {bk fl : Int} (h : openOk t bk fl = true) {i : Int} {l : List Int} (hL : s.L = i :: l) : openV c s t bk fl = { openX (s.E i.toNat) t bk fl with due := dueT c s.now (beginS t.p fl) } := by
  unfold openV
  rw [h, if_pos rfl, hL]
theorem openS_yes {t : Tup} {bk fl : Int} (h : openOk t bk fl = true) {i : Int} {l : List Int} (hL : s.L = i :: l) : openS c n s t bk fl = { s with L := l, E := updE s.E i.toNat (openV c s t bk fl), M := lmPut s.M i.toNat (openV c s t bk fl).due, lk := (lookS n i s).lk } := by
  rw [openV_yes h hL]
  unfold openS
  rw [h, if_pos rfl, hL]
  dsimp only
  unfold awaitS openS1
  simp only [updE_self, updE_updE]
  have e : lookS n i { s with L := l } = { s with L := l, lk := (lookS n i s).lk } := by
    unfold lookS
    split <;> rfl
  rw [e]
  rfl
theorem openOk_tup {t : Tup} {bk fl : Int} (h : openOk t bk fl = true) : tupW t := by
  unfold openOk at h
  rw [Bool.and_eq_true, Bool.and_eq_true] at h
  refine ⟨h.1.1, ?_⟩
  have h2 := h.2
  unfold beginS firstB at h2
  by_cases a : t.p = 17
  · exact .inl a
  · by_cases b : t.p = 6
    · exact .inr b
    · have a' : (t.p == 17) = false := by simpa using a
      have b' : (t.p == 6) = false := by simpa using b
      rw [a', b'] at h2
      simp at h2
theorem TI.touch (h : TI n s) (i fl : Int) : TI n (touchS c n s i fl) := by
  cases hc : closeOk n s i
  · rw [touchS_no hc]
    exact h.look i
  · obtain ⟨k, rfl, hk, hu⟩ := closeOk_iff.1 hc
    by_cases h4 : nextS (s.E ((k : Int)).toNat).st fl = 4
    · rw [touchS_gone hc h4]
      exact (h.look k).gone (by omega) (by rw [lookS_E]; exact hu)
    · rw [touchS_stay hc h4, touchV_stay hc h4, Int.toNat_natCast]
      exact h.put hk (x := { nextT (s.E k) fl with due := dueT c s.now (nextS (s.E k).st fl) }) (.inr ⟨hu, rfl⟩) hu (h.sl k hk) (h.tup k hk hu) rfl
theorem TI.open (h : TI n s) (t : Tup) (bk fl : Int) : TI n (openS c n s t bk fl) := by
  cases ho : openOk t bk fl
  · rw [openS_no ho]
    exact h
  · cases hL : s.L with
    | nil => rw [openS_full hL]; exact h
    | cons i l =>
      have hi := h.rng i (by rw [hL]; exact List.mem_cons_self)
      obtain ⟨k, rfl⟩ : ∃ k : Nat, i = (k : Int) := ⟨i.toNat, by omega⟩
      rw [openS_yes ho hL, openV_yes ho hL, Int.toNat_natCast]
      exact h.put (k := k) (by omega) (x := { openX (s.E k) t bk fl with due := dueT c s.now (beginS t.p fl) }) (.inl hL) rfl (h.sl k (by omega)) (openOk_tup ho) rfl
theorem TI.go (h : TI n s) {G nw : Int} {S : List Int} (hS : GoS G s.now nw s.M S) : TI n (goTab n s nw S) ∧ (∀ k : Nat, (goTab n s nw S).E k = if (k : Int) ∈ S then clrS (s.E k) else s.E k) ∧ (goTab n s nw S).M = delAll s.M S ∧ (goTab n s nw S).L = S.reverse ++ s.L ∧ (goTab n s nw S).now = goN s.now nw ∧ (goTab n s nw S).lk = s.lk := by
  have hm : ∀ x ∈ S, 0 ≤ x ∧ x < n ∧ (s.E x.toNat).used = true := fun x hx => by
    cases hg : goOk s.now nw
    · rw [hS.no hg] at hx
      cases hx
    · exact (h.has x).1 ((hS.mem hg x).1 hx).1
  obtain ⟨h1, h2, h3, h4, h5, h6⟩ := TI.all S (h.now (goN s.now nw)) hS.nd hm
  have e : goTab n s nw S = goAll n { s with now := goN s.now nw } S := by
    refine (goAll_M S { s with now := goN s.now nw } (delAll s.M S) fun x hx => (hm x hx).1).trans ?_
    rw [delAll_same S (delAll s.M S) (fun x hx hh => ((lmHas_delAll S s.M).1 hh).2 hx), ← h3]
  rw [e]
  exact ⟨h1, h2, h3, h4, h5, h6⟩
theorem TI.drop (h : TI n s) (P : Slt → Bool) : TI n (dropS n s (allL s.E P n)) ∧ (∀ k : Nat, k < n → (dropS n s (allL s.E P n)).E k = if (s.E k).used && P (s.E k) then clrS (s.E k) else s.E k) ∧ (dropS n s (allL s.E P n)).L = (allL s.E P n).reverse.map (fun k : Nat => (k : Int)) ++ s.L ∧ (dropS n s (allL s.E P n)).now = s.now ∧ (dropS n s (allL s.E P n)).lk = s.lk := by
  have hm : ∀ k : Nat, k ∈ allL s.E P n ↔ k < n ∧ ((s.E k).used && P (s.E k)) = true := fun k => by
    unfold allL
    rw [List.mem_filter, List.mem_range]
  have hmm : ∀ k : Nat, (k : Int) ∈ (allL s.E P n).map (fun k : Nat => (k : Int)) ↔ k ∈ allL s.E P n := fun k => by
    rw [List.mem_map]
    constructor
    · rintro ⟨j, hj, e⟩
      have : j = k := by omega
      exact this ▸ hj
    · exact fun h => ⟨k, h, rfl⟩
  rw [dropS_eq]
  obtain ⟨h1, h2, h3, h4, h5, h6⟩ := TI.all ((allL s.E P n).map fun k : Nat => (k : Int)) h (by unfold List.Nodup; rw [List.pairwise_map]; exact (allL_nodup s.E P n).imp fun h e => h (by omega)) (fun x hx => by
    obtain ⟨k, hk, rfl⟩ := List.mem_map.1 hx
    have := (hm k).1 hk
    rw [Bool.and_eq_true] at this
    rw [Int.toNat_natCast]
    exact ⟨by omega, by omega, this.2.1⟩)
  refine ⟨h1, fun k hk => ?_, by rw [h4, List.map_reverse], h5, h6⟩
  rw [h2 k]
  by_cases hx : ((s.E k).used && P (s.E k)) = true
  · rw [if_pos ((hmm k).2 ((hm k).2 ⟨hk, hx⟩)), if_pos hx]
  · rw [if_neg (fun e => hx ((hm k).1 ((hmm k).1 e)).2), if_neg hx]
end
end Go.Proofs.Ytmkknjhalcocmaa

namespace Go.Proofs.Ytmkknjhalcocmaa
open Go Go.RowKit Go.Deep Go.Maps Go.ChangeMaps

/-- A law's blocks that are not of the table's, K; all that came behind the law's first world w0. -/
def TabN (w0 w : World) (g sb n : Nat) (c : TCfg) (s : TSt) (K : Nat → Prop) : Prop :=
  TI n s ∧ c.right ∧ Below w0.heap.size w0 w ∧ ∃ X, TabP w g sb n c s X ∧ ∀ b, X b → w0.heap.size ≤ b ∧ ¬ K b
/-- What a call of the table's may change. -/
def Nk (w0 : World) (K : Nat → Prop) : Nat → Prop := fun b => w0.heap.size ≤ b ∧ ¬ K b
section
variable {w0 w w' : World} {g sb n : Nat} {c : TCfg} {s s' : TSt} {K K' F : Nat → Prop}
theorem TabN.ti (h : TabN w0 w g sb n c s K) : TI n s := h.1
theorem TabN.below (h : TabN w0 w g sb n c s K) : Below w0.heap.size w0 w := h.2.2.1
theorem TabN.size (h : TabN w0 w g sb n c s K) : w0.heap.size ≤ w.heap.size := h.2.2.1.size
theorem TabN.n4096 (h : TabN w0 w g sb n c s K) : n ≤ 4096 := by
  obtain ⟨-, -, -, X, h1, -⟩ := h
  exact h1.rng.2.2
theorem tabn_to {X : Nat → Prop} (hi : TI n s') (hr : c.right) (hb : Below w0.heap.size w0 w) (h2 : ∀ b, X b → w0.heap.size ≤ b ∧ ¬ K b) (hK : ∀ b, K b → b < w.heap.size) (t : TabTo w w' g sb n c s' X) : TabN w0 w' g sb n c s' K ∧ Chg (Nk w0 K) w w' := by
  obtain ⟨X', k1, k2, k3⟩ := t
  have hz := hb.size
  refine ⟨⟨hi, hr, below_chg hb k2 (fun b hb hx => by have := (h2 b hx).1; omega) hz, X', k1, fun b hx => ?_⟩, k2.mono fun b _ hx => h2 b hx⟩
  rcases k3 b hx with h | h
  · exact h2 b h
  · exact ⟨by omega, fun hk => by have := hK b hk; omega⟩
/-- A world that keeps the table's blocks. -/
theorem TabN.chg (h : TabN w0 w g sb n c s K) (k : Chg F w w') (hF : ∀ b, F b → K b) (h0 : ∀ b, F b → w0.heap.size ≤ b) : TabN w0 w' g sb n c s K := by
  obtain ⟨hi, hr, hb, X, h1, h2⟩ := h
  exact ⟨hi, hr, below_chg hb k (fun b hb hx => by have := h0 b hx; omega) hb.size, X, h1.chg k (fun b hx hf => (h2 b hx).2 (hF b hf)), h2⟩
theorem TabN.call (h : TabN w0 w g sb n c s K) (hb : Below w.heap.size w w') : TabN w0 w' g sb n c s (fun b => K b ∨ w.heap.size ≤ b ∧ b < w'.heap.size) := by
  obtain ⟨hi, hr, hb0, X, h1, h2⟩ := h
  refine ⟨hi, hr, below_chain hb hb0, X, h1.call hb, fun b hx => ⟨(h2 b hx).1, fun hk => ?_⟩⟩
  rcases hk with hk | hk
  · exact (h2 b hx).2 hk
  · have := h1.lt hx
    omega
theorem TabN.mono (h : TabN w0 w g sb n c s K) (hK : ∀ b, K' b → K b) : TabN w0 w g sb n c s K' := by
  obtain ⟨hi, hr, hb0, X, h1, h2⟩ := h
  exact ⟨hi, hr, hb0, X, h1, fun b hx => ⟨(h2 b hx).1, fun hk => (h2 b hx).2 (hK b hk)⟩⟩
theorem TabN.call0 (h : TabN w0 w g sb n c s K) (hb : Below w.heap.size w w') : TabN w0 w' g sb n c s K := (h.call hb).mono fun _ hk => .inl hk
theorem TabN.alloc (h : TabN w0 w g sb n c s K) (o : Obj) : TabN w0 (w.alloc o) g sb n c s (fun b => K b ∨ b = w.heap.size) :=
  (h.call (below_alloc (Below.refl _ _) o)).mono fun b hk => hk.imp id fun e => ⟨by omega, by rw [World.size_alloc]; omega⟩
theorem TabN.drew (h : TabN w0 w g sb n c s K) : TabN w0 w.drew g sb n c s K := h.call0 (Below.refl _ _).drew
theorem tabn_new (b : Nat) (hb : b ≤ 12) (a1 a2 a3 a4 : Int) (hr : rightS a1 a2 a3 a4 = true) (G : Int) (hG : 1 ≤ G ∧ G ≤ 1024) (hw : Below w0.heap.size w0 w) (hK : ∀ b, K b → b < w.heap.size) (hrr : TCfg.right ⟨a1, a2, a3, a4, G⟩) :
    Calls Try.prog 7 #[.int .i64 b, .agg #[.int .i64 a1, .int .i64 a2, .int .i64 a3, .int .i64 a4], .int .i64 G] w fun e w' => ∃ g sb, e = .returned (.tuple #[.pointer (some ⟨g, 0, none⟩), .int .i64 0]) ∧ TabN w0 w' g sb (2 ^ b) ⟨a1, a2, a3, a4, G⟩ ⟨0, [], upto (2 ^ b) 0, fun k => { slt0 with sl := k }, 0⟩ K ∧ Below w.heap.size w w' := by
  refine (tab_new b hb a1 a2 a3 a4 hr G hG w).mono ?_
  rintro e w' ⟨g, sb, X, rfl, h1, h2, h3⟩
  have hz := hw.size
  exact ⟨g, sb, rfl, ⟨TI.new _, hrr, below_chain h2 hw, X, h1, fun b hx => ⟨by have := h3 b hx; omega, fun hk => by have := hK b hk; have := h3 b hx; omega⟩⟩, h2⟩
theorem tabn_open (h : TabN w0 w g sb n c s K) (hK : ∀ b, K b → b < w.heap.size) (t : Tup) (bk fl : Int) :
    Calls Try.prog 11 #[.pointer (some ⟨g, 0, none⟩), t.val, .int .i64 bk, .int .i64 fl] w fun e w' => e = .returned (.tuple #[(openV c s t bk fl).val, .int .i64 (openE s t bk fl)]) ∧ TabN w0 w' g sb n c (openS c n s t bk fl) K ∧ Chg (Nk w0 K) w w' := by
  obtain ⟨hi, hr, hb, X, h1, h2⟩ := h
  refine (tab_open h1 hi.sl (hi.mlen5 h1.rng.2.2) hr t bk fl).mono ?_
  rintro e w' ⟨rfl, hT⟩
  exact ⟨rfl, tabn_to (hi.open t bk fl) hr hb h2 hK hT⟩
theorem tabn_find (h : TabN w0 w g sb n c s K) (hK : ∀ b, K b → b < w.heap.size) (t : Tup) (i low bt : Int) :
    Calls Try.prog 12 #[.pointer (some ⟨g, 0, none⟩), t.val, .int .i64 i, .int .u64 low, .int .i64 bt] w fun e w' => e = .returned (.tuple #[(findV n s t i low bt).val, .bool (findOk n s t i low bt)]) ∧ TabN w0 w' g sb n c (lookS n i s) K ∧ Chg (Nk w0 K) w w' := by
  obtain ⟨hi, hr, hb, X, h1, h2⟩ := h
  refine (tab_find h1 t i low bt).mono ?_
  rintro e w' ⟨rfl, hT⟩
  exact ⟨rfl, tabn_to (hi.look i) hr hb h2 hK hT⟩
theorem tabn_touch (h : TabN w0 w g sb n c s K) (hK : ∀ b, K b → b < w.heap.size) (i fl : Int) :
    Calls Try.prog 13 #[.pointer (some ⟨g, 0, none⟩), .int .i64 i, .int .i64 fl] w fun e w' => e = .returned (.tuple #[(touchV c n s i fl).val, .bool (closeOk n s i)]) ∧ TabN w0 w' g sb n c (touchS c n s i fl) K ∧ Chg (Nk w0 K) w w' := by
  obtain ⟨hi, hr, hb, X, h1, h2⟩ := h
  refine (tab_touch h1 hi.sl (hi.mlen5 h1.rng.2.2) hr i fl).mono ?_
  rintro e w' ⟨rfl, hT⟩
  exact ⟨rfl, tabn_to (hi.touch i fl) hr hb h2 hK hT⟩
theorem tabn_close (h : TabN w0 w g sb n c s K) (hK : ∀ b, K b → b < w.heap.size) (i : Int) :
    Calls Try.prog 14 #[.pointer (some ⟨g, 0, none⟩), .int .i64 i] w fun e w' => e = .returned (.tuple #[(closeV n s i).val, .bool (closeOk n s i)]) ∧ TabN w0 w' g sb n c (closeS n s i) K ∧ Chg (Nk w0 K) w w' := by
  obtain ⟨hi, hr, hb, X, h1, h2⟩ := h
  refine (tab_close h1 hi.sl i).mono ?_
  rintro e w' ⟨rfl, hT⟩
  exact ⟨rfl, tabn_to (hi.close i) hr hb h2 hK hT⟩
theorem tabn_go (h : TabN w0 w g sb n c s K) (hK : ∀ b, K b → b < w.heap.size) (nw : Int) :
    Calls Try.prog 15 #[.pointer (some ⟨g, 0, none⟩), .int .i64 nw] w fun e w' => ∃ (B : Option Addr) (q : Nat) (S : List Int), e = .returned (.tuple #[.slice B S.length q, .int .i64 (goE s.now nw)]) ∧ GoS c.G s.now nw s.M S ∧ OwnE w' w.heap.size B q (goEnts s S) ∧ (∀ x ∈ S, 0 ≤ x ∧ x < n) ∧ TabN w0 w' g sb n c (goTab n s nw S) K ∧ Chg (Nk w0 K) w w' := by
  obtain ⟨hi, hr, hb, X, h1, h2⟩ := h
  refine (tab_go h1 hi.sl hi.hasN nw).mono ?_
  rintro e w' ⟨B, q, S, rfl, hG, hO, hS, hT⟩
  exact ⟨B, q, S, rfl, hG, hO, hS, tabn_to (hi.go hG).1 hr hb h2 hK hT⟩
theorem tabn_drop (h : TabN w0 w g sb n c s K) (hK : ∀ b, K b → b < w.heap.size) (bk : Int) :
    Calls Try.prog 16 #[.pointer (some ⟨g, 0, none⟩), .int .i64 bk] w fun e w' => ∃ (A : Option Addr) (q : Nat), e = .returned (.slice A (entsOf s.E (allL s.E (fun x => x.bk == bk) n)).length q) ∧ OwnE w' w.heap.size A q (entsOf s.E (allL s.E (fun x => x.bk == bk) n)) ∧ TabN w0 w' g sb n c (dropS n s (allL s.E (fun x => x.bk == bk) n)) K ∧ Chg (Nk w0 K) w w' := by
  obtain ⟨hi, hr, hb, X, h1, h2⟩ := h
  refine (tab_drop h1 hi.sl bk).mono ?_
  rintro e w' ⟨A, q, rfl, hO, hT⟩
  exact ⟨A, q, rfl, hO, tabn_to (hi.drop _).1 hr hb h2 hK hT⟩
/-- The entries that are live. -/
def liveL (n : Nat) (s : TSt) : List Slt := entsOf s.E (allL s.E (fun _ => true) n)
theorem tabn_live (h : TabN w0 w g sb n c s K) :
    Calls Try.prog 8 #[.pointer (some ⟨g, 0, none⟩)] w fun e w' => ∃ (A : Option Addr) (q : Nat), e = .returned (.slice A (liveL n s).length q) ∧ OwnE w' w.heap.size A q (liveL n s) ∧ Below w.heap.size w w' := by
  obtain ⟨hi, hr, hb, X, h1, h2⟩ := h
  exact tab_live h1
theorem tabn_free (h : TabN w0 w g sb n c s K) : Calls Try.prog 17 #[.pointer (some ⟨g, 0, none⟩)] w fun e w' => e = .returned (.int .i64 s.L.length) ∧ w = w' := by
  obtain ⟨hi, hr, hb, X, h1, h2⟩ := h
  exact tab_free h1
theorem tabn_looks (h : TabN w0 w g sb n c s K) : Calls Try.prog 9 #[.pointer (some ⟨g, 0, none⟩)] w fun e w' => e = .returned (.int .i64 s.lk) ∧ w = w' := by
  obtain ⟨hi, hr, hb, X, h1, h2⟩ := h
  exact tab_looks h1
theorem tabn_gen (h : TabN w0 w g sb n c s K) (i : Int) : Calls Try.prog 10 #[.pointer (some ⟨g, 0, none⟩), .int .i64 i] w fun e w' => e = .returned (.int .u64 (genI n s.E i)) ∧ w = w' := by
  obtain ⟨hi, hr, hb, X, h1, h2⟩ := h
  exact tab_gen h1 i
end
end Go.Proofs.Ytmkknjhalcocmaa

namespace Go.Proofs.Ytmkknjhalcocmaa
open Go Go.RowKit Go.Deep Go.Maps Go.ChangeMaps

section
variable {w w1 w2 w3 : World} {g : Nat}
theorem tab_free_nil (w : World) : Calls Try.prog 17 #[.pointer none] w fun e w' => e = .returned (.int .i64 0) ∧ w = w' := by
  go_enter Try.func17, Try.ntmps17
  go_wp2_with (go_at_call 28; (with_reducible refine (tab_given_nil _).mono ?_); rintro e w1 ⟨rfl, rfl⟩)
  go_ret
  exact ⟨rfl, rfl⟩
theorem tab_looks_plain (h : Blk w g 71 tabZ) : Calls Try.prog 9 #[.pointer (some ⟨g, 0, none⟩)] w fun e w' => e = .returned (.int .i64 0) ∧ w = w' := by
  have GV := Lib.hid (tab_given_plain h)
  clear h
  go_enter Try.func9, Try.ntmps9
  go_wp2_with (go_at_call 28; (with_reducible refine GV.out.mono ?_); rintro e w1 ⟨rfl, rfl⟩)
  go_ret
  exact ⟨rfl, rfl⟩
theorem tab_go_plain (h : Blk w g 71 tabZ) (nw : Int) : Calls Try.prog 15 #[.pointer (some ⟨g, 0, none⟩), .int .i64 nw] w fun e w' => e = .returned (.tuple #[.slice none 0 0, .int .i64 1]) ∧ w = w' := by
  have GV := Lib.hid (tab_given_plain h)
  clear h
  go_enter Try.func15, Try.ntmps15
  go_wp2_with (go_at_call 28; (with_reducible refine GV.out.mono ?_); rintro e w1 ⟨rfl, rfl⟩)
  go_ret2
  exact ⟨by simp, rfl⟩
theorem tab_all_nil (f : Value) (w : World) : Calls Try.prog 26 #[.pointer none, f] w fun e w' => e = .returned (.slice none 0 0) ∧ w = w' := by
  go_enter Try.func26, Try.ntmps26
  go_wp2_with (go_at_call 28; (with_reducible refine (tab_given_nil _).mono ?_); rintro e w1 ⟨rfl, rfl⟩)
  go_ret
  exact ⟨rfl, rfl⟩
theorem tab_all_plain (h : Blk w g 71 tabZ) (f : Value) : Calls Try.prog 26 #[.pointer (some ⟨g, 0, none⟩), f] w fun e w' => e = .returned (.slice none 0 0) ∧ w = w' := by
  have GV := Lib.hid (tab_given_plain h)
  clear h
  go_enter Try.func26, Try.ntmps26
  go_wp2_with (go_at_call 28; (with_reducible refine GV.out.mono ?_); rintro e w1 ⟨rfl, rfl⟩)
  go_ret
  exact ⟨rfl, rfl⟩
theorem tab_live_nil (w : World) : Calls Try.prog 8 #[.pointer none] w fun e w' => e = .returned (.slice none 0 0) ∧ w = w' := by
  go_enter Try.func8, Try.ntmps8
  go_wp2_with (go_at_call 26; (with_reducible refine (tab_all_nil _ _).mono ?_); rintro e w1 ⟨rfl, rfl⟩)
  go_loop [3, 9] (fun ov kv => kv = .int .i64 0 ∧ ov = .slice none 0 0) (fun _ _ => 0)
  case atStart => exact ⟨rfl, rfl⟩
  case round =>
    obtain ⟨rfl, rfl⟩ := hrel
    go_wp2_with fail
    go_ret
    exact ⟨rfl, rfl⟩
theorem tab_drop_plain (h : Blk w g 71 tabZ) (bk : Int) : Calls Try.prog 16 #[.pointer (some ⟨g, 0, none⟩), .int .i64 bk] w fun e w' => e = .returned (.slice none 0 0) ∧ Below w.heap.size w w' := by
  have hb0 : Below w.heap.size w (w.alloc (.cells #[.int .i64 bk] 3)) := below_alloc (Below.refl _ _) _
  have AL := Lib.hid fun f => tab_all_plain (h.call hb0) f
  clear h
  go_enter Try.func16, Try.ntmps16
  go_upto_region 1 with fail
  generalize w.alloc (.cells #[.int .i64 bk] 3) = w1 at *
  go_wp2_with (go_at_call 26; (with_reducible refine (AL.out _).mono ?_); rintro e w2 ⟨rfl, rfl⟩)
  go_loop [5, 12] (fun ov kv => kv = .int .i64 0 ∧ ov = .slice none 0 0) (fun _ _ => 0)
  case atStart => exact ⟨rfl, rfl⟩
  case round =>
    obtain ⟨rfl, rfl⟩ := hrel
    go_wp2_with fail
    go_ret
    exact ⟨rfl, hb0⟩
theorem tab_look_nil (i : Int) (w : World) : Calls Try.prog 32 #[.pointer none, .int .i64 i] w fun e w' => e = .returned (.pointer none) ∧ w = w' := by
  go_enter Try.func32, Try.ntmps32
  go_wp2_with (go_at_call 28; (with_reducible refine (tab_given_nil _).mono ?_); rintro e w1 ⟨rfl, rfl⟩)
  go_ret
  exact ⟨rfl, rfl⟩
set_option maxRecDepth 100000 in
set_option maxHeartbeats 4000000 in
theorem tab_find_nil (t : Tup) (i low bt : Int) (w : World) : Calls Try.prog 12 #[.pointer none, t.val, .int .i64 i, .int .u64 low, .int .i64 bt] w fun e w' => e = .returned (.tuple #[slt0.val, .bool false]) ∧ Below w.heap.size w w' := by
  have hb0 : Below w.heap.size w (w.alloc (.cells t.cells.toArray 39)) := below_alloc (Below.refl _ _) _
  have B1 := Blk.new (w.alloc (.cells t.cells.toArray 39)) 43 slt0.entA
  have hb1 : Below w.heap.size w ((w.alloc (.cells t.cells.toArray 39)).alloc (.cells slt0.entA 43)) := below_alloc hb0 _
  rw [World.size_alloc] at B1
  clear hb0
  replace B1 := Lib.hid B1
  go_enter Try.func12, Try.ntmps12
  go_upto_region 1 with fail
  change Code.wp _ _ _ _ ((w.alloc (.cells t.cells.toArray 39)).alloc (.cells slt0.entA 43))
  obtain ⟨r, hr⟩ : ∃ r, w.heap.size + 1 = r := ⟨_, rfl⟩
  obtain ⟨p, hp⟩ : ∃ p, w.heap.size = p := ⟨_, rfl⟩
  rw [hr] at B1
  generalize (w.alloc (.cells t.cells.toArray 39)).alloc (.cells slt0.entA 43) = w1 at *
  try rw [hr]
  try rw [hp]
  have B2 := B1
  have hbW := hb1
  obtain ⟨r0, r1, r2, r3, r4, r5, r6, r7, r8, r9, r10, r11, r12, r13, rf⟩ := ent_blk B2.out
  go_wp2_with (go_at_call 32; (with_reducible refine (tab_look_nil _ _).mono ?_); rintro e w8 ⟨rfl, rfl⟩)
  change bodyPost _ _ _ _ _ (setEnt w1 r slt0)
  obtain ⟨B6, hc6⟩ := setEnt_blk B2.out slt0
  have hb6 : Below w.heap.size w (setEnt w1 r slt0) := below_chg hbW hc6 (fun b hb e => by have e2 : b = r := e; omega) hbW.size
  generalize setEnt w1 r slt0 = w6 at *
  clear r0 r1 r2 r3 r4 r5 r6 r7 r8 r9 r10 r11 r12 r13 rf
  obtain ⟨r0, r1, r2, r3, r4, r5, r6, r7, r8, r9, r10, r11, r12, r13, -⟩ := ent_blk B6
  clear B6 hc6
  replace hb6 := Lib.hid hb6
  refine bodyPost_ret (v := .tuple #[(slt0).val, .bool false]) (by simp [results, Try.results12, go_sem, r0, r1, r2, r3, r4, r5, r6, r7, r8, r9, r10, r11, r12, r13]) rfl ?_
  exact ⟨rfl, by have := hb6.out; rwa [hp] at *⟩
set_option maxRecDepth 100000 in
set_option maxHeartbeats 4000000 in
theorem tab_open_nil (t : Tup) (bk fl : Int) (w : World) : Calls Try.prog 11 #[.pointer none, t.val, .int .i64 bk, .int .i64 fl] w fun e w' => e = .returned (.tuple #[slt0.val, .int .i64 1]) ∧ Below w.heap.size w w' := by
  have hb0 : Below w.heap.size w (w.alloc (.cells t.cells.toArray 39)) := below_alloc (Below.refl _ _) _
  have P0 := Blk.new w 39 t.cells.toArray
  have B1 := Blk.new (w.alloc (.cells t.cells.toArray 39)) 43 slt0.entA
  have P1 := P0.alloc (.cells slt0.entA 43)
  have hb1 : Below w.heap.size w ((w.alloc (.cells t.cells.toArray 39)).alloc (.cells slt0.entA 43)) := below_alloc hb0 _
  rw [World.size_alloc] at B1
  clear hb0 P0
  replace B1 := Lib.hid B1
  go_enter Try.func11, Try.ntmps11
  go_upto_region 1 with fail
  change Code.wp _ _ _ _ ((w.alloc (.cells t.cells.toArray 39)).alloc (.cells slt0.entA 43))
  obtain ⟨r, hr⟩ : ∃ r, w.heap.size + 1 = r := ⟨_, rfl⟩
  obtain ⟨p, hp⟩ : ∃ p, w.heap.size = p := ⟨_, rfl⟩
  rw [hr] at B1
  rw [hp] at P1
  generalize (w.alloc (.cells t.cells.toArray 39)).alloc (.cells slt0.entA 43) = w1 at *
  try rw [hr]
  try rw [hp]
  have BG := Lib.hid fun W => begin_any t.p fl W
  have p0 : w1.cell? ⟨p, 0, none⟩ = some (.int .i64 t.p) := P1.cell 0
  clear P1
  have B2 := B1
  have hbW := hb1
  obtain ⟨r0, r1, r2, r3, r4, r5, r6, r7, r8, r9, r10, r11, r12, r13, rf⟩ := ent_blk B2.out
  go_wp2_with (first
    | (go_at_call 29; (with_reducible refine (BG.out _).mono ?_); rintro e w8 ⟨rfl, rfl⟩)
    | (go_at_call 28; (with_reducible refine (tab_given_nil _).mono ?_); rintro e w8 ⟨rfl, rfl⟩))
  change bodyPost _ _ _ _ _ (setEnt w1 r slt0)
  obtain ⟨B6, hc6⟩ := setEnt_blk B2.out slt0
  have hb6 : Below w.heap.size w (setEnt w1 r slt0) := below_chg hbW hc6 (fun b hb e => by have e2 : b = r := e; omega) hbW.size
  generalize setEnt w1 r slt0 = w6 at *
  clear r0 r1 r2 r3 r4 r5 r6 r7 r8 r9 r10 r11 r12 r13 rf
  obtain ⟨r0, r1, r2, r3, r4, r5, r6, r7, r8, r9, r10, r11, r12, r13, -⟩ := ent_blk B6
  clear B6 hc6
  replace hb6 := Lib.hid hb6
  refine bodyPost_ret (v := .tuple #[(slt0).val, .int .i64 1]) (by simp [results, Try.results11, go_sem, r0, r1, r2, r3, r4, r5, r6, r7, r8, r9, r10, r11, r12, r13]) rfl ?_
  exact ⟨rfl, by have := hb6.out; rwa [hp] at *⟩
end
end Go.Proofs.Ytmkknjhalcocmaa
