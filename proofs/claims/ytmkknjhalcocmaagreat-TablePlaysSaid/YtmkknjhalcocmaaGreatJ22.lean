/- table: a table in a law's world: what is true of it, and the blocks that are not its own; tables that nobody made. table: tables that nobody made. -/
import Derived.Test.YtmkknjhalcocmaaGreatJ21
import Derived.Test.YtmkknjhalcocmaaGreatJ20
namespace Go.Proofs.YtmkknjhalcocmaaGreat
open Go Go.RowKit Go.Deep Go.Maps Go.ChangeMaps

/-- A law's blocks that are not of the table's, K; all that came behind the law's first world w0. -/
def TabN (w0 w : World) (g sb n : Nat) (c : TCfg) (s : TSt) (K : Nat → Prop) : Prop :=
  TI n s ∧ c.right ∧ Below w0.heap.size w0 w ∧ ∃ X, TabP w g sb n c s X ∧ ∀ b, X b → w0.heap.size ≤ b ∧ ¬ K b
/-- What a call of the table's may change. -/
def Nk (w0 : World) (K : Nat → Prop) : Nat → Prop := fun b => w0.heap.size ≤ b ∧ ¬ K b
section
variable {w0 w w' : World} {g sb n : Nat} {c : TCfg} {s s' : TSt} {K K' F : Nat → Prop}
theorem TabN.ti (h : TabN w0 w g sb n c s K) : TI n s := h.1
theorem TabN.below (h : TabN w0 w g sb n c s K) : Below w0.heap.size w0 w := h.2.2.1
theorem TabN.size (h : TabN w0 w g sb n c s K) : w0.heap.size ≤ w.heap.size := h.2.2.1.size
theorem TabN.n4096 (h : TabN w0 w g sb n c s K) : n ≤ 4096 := by
  obtain ⟨-, -, -, X, h1, -⟩ := h
  exact h1.rng.2.2
theorem tabn_to {X : Nat → Prop} (hi : TI n s') (hr : c.right) (hb : Below w0.heap.size w0 w) (h2 : ∀ b, X b → w0.heap.size ≤ b ∧ ¬ K b) (hK : ∀ b, K b → b < w.heap.size) (t : TabTo w w' g sb n c s' X) : TabN w0 w' g sb n c s' K ∧ Chg (Nk w0 K) w w' := by
  obtain ⟨X', k1, k2, k3⟩ := t
  have hz := hb.size
  refine ⟨⟨hi, hr, below_chg hb k2 (fun b hb hx => by have := (h2 b hx).1; omega) hz, X', k1, fun b hx => ?_⟩, k2.mono fun b _ hx => h2 b hx⟩
  rcases k3 b hx with h | h
  · exact h2 b h
  · exact ⟨by omega, fun hk => by have := hK b hk; omega⟩
/-- A world that keeps the table's blocks. -/
theorem TabN.chg (h : TabN w0 w g sb n c s K) (k : Chg F w w') (hF : ∀ b, F b → K b) (h0 : ∀ b, F b → w0.heap.size ≤ b) : TabN w0 w' g sb n c s K := by
  obtain ⟨hi, hr, hb, X, h1, h2⟩ := h
  exact ⟨hi, hr, below_chg hb k (fun b hb hx => by have := h0 b hx; omega) hb.size, X, h1.chg k (fun b hx hf => (h2 b hx).2 (hF b hf)), h2⟩
theorem TabN.call (h : TabN w0 w g sb n c s K) (hb : Below w.heap.size w w') : TabN w0 w' g sb n c s (fun b => K b ∨ w.heap.size ≤ b ∧ b < w'.heap.size) := by
  obtain ⟨hi, hr, hb0, X, h1, h2⟩ := h
  refine ⟨hi, hr, below_chain hb hb0, X, h1.call hb, fun b hx => ⟨(h2 b hx).1, fun hk => ?_⟩⟩
  rcases hk with hk | hk
  · exact (h2 b hx).2 hk
  · have := h1.lt hx
    omega
theorem TabN.mono (h : TabN w0 w g sb n c s K) (hK : ∀ b, K' b → K b) : TabN w0 w g sb n c s K' := by
  obtain ⟨hi, hr, hb0, X, h1, h2⟩ := h
  exact ⟨hi, hr, hb0, X, h1, fun b hx => ⟨(h2 b hx).1, fun hk => (h2 b hx).2 (hK b hk)⟩⟩
theorem TabN.call0 (h : TabN w0 w g sb n c s K) (hb : Below w.heap.size w w') : TabN w0 w' g sb n c s K := (h.call hb).mono fun _ hk => .inl hk
theorem TabN.alloc (h : TabN w0 w g sb n c s K) (o : Obj) : TabN w0 (w.alloc o) g sb n c s (fun b => K b ∨ b = w.heap.size) :=
  (h.call (below_alloc (Below.refl _ _) o)).mono fun b hk => hk.imp id fun e => ⟨by omega, by rw [World.size_alloc]; omega⟩
theorem TabN.drew (h : TabN w0 w g sb n c s K) : TabN w0 w.drew g sb n c s K := h.call0 (Below.refl _ _).drew
theorem tabn_new (b : Nat) (hb : b ≤ 12) (a1 a2 a3 a4 : Int) (hr : rightS a1 a2 a3 a4 = true) (G : Int) (hG : 1 ≤ G ∧ G ≤ 1024) (hw : Below w0.heap.size w0 w) (hK : ∀ b, K b → b < w.heap.size) (hrr : TCfg.right ⟨a1, a2, a3, a4, G⟩) :
    Calls Tryz.prog 5 #[.int .i64 b, .agg #[.int .i64 a1, .int .i64 a2, .int .i64 a3, .int .i64 a4], .int .i64 G] w fun e w' => ∃ g sb, e = .returned (.tuple #[.pointer (some ⟨g, 0, none⟩), .int .i64 0]) ∧ TabN w0 w' g sb (2 ^ b) ⟨a1, a2, a3, a4, G⟩ ⟨0, [], upto (2 ^ b) 0, fun k => { slt0 with sl := k }, 0⟩ K ∧ Below w.heap.size w w' := by
  refine (tab_new b hb a1 a2 a3 a4 hr G hG w).mono ?_
  rintro e w' ⟨g, sb, X, rfl, h1, h2, h3⟩
  have hz := hw.size
  exact ⟨g, sb, rfl, ⟨TI.new _, hrr, below_chain h2 hw, X, h1, fun b hx => ⟨by have := h3 b hx; omega, fun hk => by have := hK b hk; have := h3 b hx; omega⟩⟩, h2⟩
theorem tabn_open (h : TabN w0 w g sb n c s K) (hK : ∀ b, K b → b < w.heap.size) (t : Tup) (bk fl : Int) :
    Calls Tryz.prog 13 #[.pointer (some ⟨g, 0, none⟩), t.val, .int .i64 bk, .int .i64 fl] w fun e w' => e = .returned (.tuple #[(openV c s t bk fl).val, .int .i64 (openE s t bk fl)]) ∧ TabN w0 w' g sb n c (openS c n s t bk fl) K ∧ Chg (Nk w0 K) w w' := by
  obtain ⟨hi, hr, hb, X, h1, h2⟩ := h
  refine (tab_open h1 hi.sl (hi.mlen5 h1.rng.2.2) hr t bk fl).mono ?_
  rintro e w' ⟨rfl, hT⟩
  exact ⟨rfl, tabn_to (hi.open t bk fl) hr hb h2 hK hT⟩
theorem tabn_find (h : TabN w0 w g sb n c s K) (hK : ∀ b, K b → b < w.heap.size) (t : Tup) (i low bt : Int) :
    Calls Tryz.prog 16 #[.pointer (some ⟨g, 0, none⟩), t.val, .int .i64 i, .int .u64 low, .int .i64 bt] w fun e w' => e = .returned (.tuple #[(findV n s t i low bt).val, .bool (findOk n s t i low bt)]) ∧ TabN w0 w' g sb n c (lookS n i s) K ∧ Chg (Nk w0 K) w w' := by
  obtain ⟨hi, hr, hb, X, h1, h2⟩ := h
  refine (tab_find h1 t i low bt).mono ?_
  rintro e w' ⟨rfl, hT⟩
  exact ⟨rfl, tabn_to (hi.look i) hr hb h2 hK hT⟩
theorem tabn_touch (h : TabN w0 w g sb n c s K) (hK : ∀ b, K b → b < w.heap.size) (i fl : Int) :
    Calls Tryz.prog 26 #[.pointer (some ⟨g, 0, none⟩), .int .i64 i, .int .i64 fl] w fun e w' => e = .returned (.tuple #[(touchV c n s i fl).val, .bool (closeOk n s i)]) ∧ TabN w0 w' g sb n c (touchS c n s i fl) K ∧ Chg (Nk w0 K) w w' := by
  obtain ⟨hi, hr, hb, X, h1, h2⟩ := h
  refine (tab_touch h1 hi.sl (hi.mlen5 h1.rng.2.2) hr i fl).mono ?_
  rintro e w' ⟨rfl, hT⟩
  exact ⟨rfl, tabn_to (hi.touch i fl) hr hb h2 hK hT⟩
theorem tabn_close (h : TabN w0 w g sb n c s K) (hK : ∀ b, K b → b < w.heap.size) (i : Int) :
    Calls Tryz.prog 14 #[.pointer (some ⟨g, 0, none⟩), .int .i64 i] w fun e w' => e = .returned (.tuple #[(closeV n s i).val, .bool (closeOk n s i)]) ∧ TabN w0 w' g sb n c (closeS n s i) K ∧ Chg (Nk w0 K) w w' := by
  obtain ⟨hi, hr, hb, X, h1, h2⟩ := h
  refine (tab_close h1 hi.sl i).mono ?_
  rintro e w' ⟨rfl, hT⟩
  exact ⟨rfl, tabn_to (hi.close i) hr hb h2 hK hT⟩
theorem tabn_go (h : TabN w0 w g sb n c s K) (hK : ∀ b, K b → b < w.heap.size) (nw : Int) :
    Calls Tryz.prog 15 #[.pointer (some ⟨g, 0, none⟩), .int .i64 nw] w fun e w' => ∃ (B : Option Addr) (q : Nat) (S : List Int), e = .returned (.tuple #[.slice B S.length q, .int .i64 (goE s.now nw)]) ∧ GoS c.G s.now nw s.M S ∧ OwnE w' w.heap.size B q (goEnts s S) ∧ (∀ x ∈ S, 0 ≤ x ∧ x < n) ∧ TabN w0 w' g sb n c (goTab n s nw S) K ∧ Chg (Nk w0 K) w w' := by
  obtain ⟨hi, hr, hb, X, h1, h2⟩ := h
  refine (tab_go h1 hi.sl hi.hasN nw).mono ?_
  rintro e w' ⟨B, q, S, rfl, hG, hO, hS, hT⟩
  exact ⟨B, q, S, rfl, hG, hO, hS, tabn_to (hi.go hG).1 hr hb h2 hK hT⟩
theorem tabn_drop (h : TabN w0 w g sb n c s K) (hK : ∀ b, K b → b < w.heap.size) (bk : Int) :
    Calls Tryz.prog 17 #[.pointer (some ⟨g, 0, none⟩), .int .i64 bk] w fun e w' => ∃ (A : Option Addr) (q : Nat), e = .returned (.slice A (entsOf s.E (allL s.E (fun x => x.bk == bk) n)).length q) ∧ OwnE w' w.heap.size A q (entsOf s.E (allL s.E (fun x => x.bk == bk) n)) ∧ TabN w0 w' g sb n c (dropS n s (allL s.E (fun x => x.bk == bk) n)) K ∧ Chg (Nk w0 K) w w' := by
  obtain ⟨hi, hr, hb, X, h1, h2⟩ := h
  refine (tab_drop h1 hi.sl bk).mono ?_
  rintro e w' ⟨A, q, rfl, hO, hT⟩
  exact ⟨A, q, rfl, hO, tabn_to (hi.drop _).1 hr hb h2 hK hT⟩
/-- The entries that are live. -/
def liveL (n : Nat) (s : TSt) : List Slt := entsOf s.E (allL s.E (fun _ => true) n)
theorem tabn_live (h : TabN w0 w g sb n c s K) :
    Calls Tryz.prog 9 #[.pointer (some ⟨g, 0, none⟩)] w fun e w' => ∃ (A : Option Addr) (q : Nat), e = .returned (.slice A (liveL n s).length q) ∧ OwnE w' w.heap.size A q (liveL n s) ∧ Below w.heap.size w w' := by
  obtain ⟨hi, hr, hb, X, h1, h2⟩ := h
  exact tab_live h1
theorem tabn_free (h : TabN w0 w g sb n c s K) : Calls Tryz.prog 10 #[.pointer (some ⟨g, 0, none⟩)] w fun e w' => e = .returned (.int .i64 s.L.length) ∧ w = w' := by
  obtain ⟨hi, hr, hb, X, h1, h2⟩ := h
  exact tab_free h1
theorem tabn_looks (h : TabN w0 w g sb n c s K) : Calls Tryz.prog 11 #[.pointer (some ⟨g, 0, none⟩)] w fun e w' => e = .returned (.int .i64 s.lk) ∧ w = w' := by
  obtain ⟨hi, hr, hb, X, h1, h2⟩ := h
  exact tab_looks h1
theorem tabn_gen (h : TabN w0 w g sb n c s K) (i : Int) : Calls Tryz.prog 12 #[.pointer (some ⟨g, 0, none⟩), .int .i64 i] w fun e w' => e = .returned (.int .u64 (genI n s.E i)) ∧ w = w' := by
  obtain ⟨hi, hr, hb, X, h1, h2⟩ := h
  exact tab_gen h1 i
end
end Go.Proofs.YtmkknjhalcocmaaGreat

namespace Go.Proofs.YtmkknjhalcocmaaGreat
open Go Go.RowKit Go.Deep Go.Maps Go.ChangeMaps

section
variable {w w1 w2 w3 : World} {g : Nat}
theorem tab_free_nil (w : World) : Calls Tryz.prog 10 #[.pointer none] w fun e w' => e = .returned (.int .i64 0) ∧ w = w' := by
  go_enter Tryz.func10, Tryz.ntmps10
  go_wp2_with (go_at_call 33; (with_reducible refine (tab_given_nil _).mono ?_); rintro e w1 ⟨rfl, rfl⟩)
  go_ret
  exact ⟨rfl, rfl⟩
theorem tab_looks_plain (h : Blk w g 64 tabZ) : Calls Tryz.prog 11 #[.pointer (some ⟨g, 0, none⟩)] w fun e w' => e = .returned (.int .i64 0) ∧ w = w' := by
  have GV := Lib.hid (tab_given_plain h)
  clear h
  go_enter Tryz.func11, Tryz.ntmps11
  go_wp2_with (go_at_call 33; (with_reducible refine GV.out.mono ?_); rintro e w1 ⟨rfl, rfl⟩)
  go_ret
  exact ⟨rfl, rfl⟩
theorem tab_go_plain (h : Blk w g 64 tabZ) (nw : Int) : Calls Tryz.prog 15 #[.pointer (some ⟨g, 0, none⟩), .int .i64 nw] w fun e w' => e = .returned (.tuple #[.slice none 0 0, .int .i64 1]) ∧ w = w' := by
  have GV := Lib.hid (tab_given_plain h)
  clear h
  go_enter Tryz.func15, Tryz.ntmps15
  go_wp2_with (go_at_call 33; (with_reducible refine GV.out.mono ?_); rintro e w1 ⟨rfl, rfl⟩)
  go_ret2
  exact ⟨by simp, rfl⟩
theorem tab_all_nil (f : Value) (w : World) : Calls Tryz.prog 31 #[.pointer none, f] w fun e w' => e = .returned (.slice none 0 0) ∧ w = w' := by
  go_enter Tryz.func31, Tryz.ntmps31
  go_wp2_with (go_at_call 33; (with_reducible refine (tab_given_nil _).mono ?_); rintro e w1 ⟨rfl, rfl⟩)
  go_ret
  exact ⟨rfl, rfl⟩
theorem tab_all_plain (h : Blk w g 64 tabZ) (f : Value) : Calls Tryz.prog 31 #[.pointer (some ⟨g, 0, none⟩), f] w fun e w' => e = .returned (.slice none 0 0) ∧ w = w' := by
  have GV := Lib.hid (tab_given_plain h)
  clear h
  go_enter Tryz.func31, Tryz.ntmps31
  go_wp2_with (go_at_call 33; (with_reducible refine GV.out.mono ?_); rintro e w1 ⟨rfl, rfl⟩)
  go_ret
  exact ⟨rfl, rfl⟩
theorem tab_live_nil (w : World) : Calls Tryz.prog 9 #[.pointer none] w fun e w' => e = .returned (.slice none 0 0) ∧ w = w' := by
  go_enter Tryz.func9, Tryz.ntmps9
  go_wp2_with (go_at_call 31; (with_reducible refine (tab_all_nil _ _).mono ?_); rintro e w1 ⟨rfl, rfl⟩)
  go_loop [3, 9] (fun ov kv => kv = .int .i64 0 ∧ ov = .slice none 0 0) (fun _ _ => 0)
  case atStart => exact ⟨rfl, rfl⟩
  case round =>
    obtain ⟨rfl, rfl⟩ := hrel
    go_wp2_with fail
    go_ret
    exact ⟨rfl, rfl⟩
theorem tab_drop_plain (h : Blk w g 64 tabZ) (bk : Int) : Calls Tryz.prog 17 #[.pointer (some ⟨g, 0, none⟩), .int .i64 bk] w fun e w' => e = .returned (.slice none 0 0) ∧ Below w.heap.size w w' := by
  have hb0 : Below w.heap.size w (w.alloc (.cells #[.int .i64 bk] 3)) := below_alloc (Below.refl _ _) _
  have AL := Lib.hid fun f => tab_all_plain (h.call hb0) f
  clear h
  go_enter Tryz.func17, Tryz.ntmps17
  go_upto_region 1 with fail
  generalize w.alloc (.cells #[.int .i64 bk] 3) = w1 at *
  go_wp2_with (go_at_call 31; (with_reducible refine (AL.out _).mono ?_); rintro e w2 ⟨rfl, rfl⟩)
  go_loop [5, 12] (fun ov kv => kv = .int .i64 0 ∧ ov = .slice none 0 0) (fun _ _ => 0)
  case atStart => exact ⟨rfl, rfl⟩
  case round =>
    obtain ⟨rfl, rfl⟩ := hrel
    go_wp2_with fail
    go_ret
    exact ⟨rfl, hb0⟩
theorem tab_look_nil (i : Int) (w : World) : Calls Tryz.prog 38 #[.pointer none, .int .i64 i] w fun e w' => e = .returned (.pointer none) ∧ w = w' := by
  go_enter Tryz.func38, Tryz.ntmps38
  go_wp2_with (go_at_call 33; (with_reducible refine (tab_given_nil _).mono ?_); rintro e w1 ⟨rfl, rfl⟩)
  go_ret
  exact ⟨rfl, rfl⟩
set_option maxRecDepth 100000 in
set_option maxHeartbeats 4000000 in
theorem tab_find_nil (t : Tup) (i low bt : Int) (w : World) : Calls Tryz.prog 16 #[.pointer none, t.val, .int .i64 i, .int .u64 low, .int .i64 bt] w fun e w' => e = .returned (.tuple #[slt0.val, .bool false]) ∧ Below w.heap.size w w' := by
  have hb0 : Below w.heap.size w (w.alloc (.cells t.cells.toArray 37)) := below_alloc (Below.refl _ _) _
  have B1 := Blk.new (w.alloc (.cells t.cells.toArray 37)) 55 slt0.entA
  have hb1 : Below w.heap.size w ((w.alloc (.cells t.cells.toArray 37)).alloc (.cells slt0.entA 55)) := below_alloc hb0 _
  rw [World.size_alloc] at B1
  clear hb0
  replace B1 := Lib.hid B1
  go_enter Tryz.func16, Tryz.ntmps16
  go_upto_region 1 with fail
  change Code.wp _ _ _ _ ((w.alloc (.cells t.cells.toArray 37)).alloc (.cells slt0.entA 55))
  obtain ⟨r, hr⟩ : ∃ r, w.heap.size + 1 = r := ⟨_, rfl⟩
  obtain ⟨p, hp⟩ : ∃ p, w.heap.size = p := ⟨_, rfl⟩
  rw [hr] at B1
  generalize (w.alloc (.cells t.cells.toArray 37)).alloc (.cells slt0.entA 55) = w1 at *
  try rw [hr]
  try rw [hp]
  have B2 := B1
  have hbW := hb1
  obtain ⟨r0, r1, r2, r3, r4, r5, r6, r7, r8, r9, r10, r11, r12, r13, rf⟩ := ent_blk B2.out
  go_wp2_with (go_at_call 38; (with_reducible refine (tab_look_nil _ _).mono ?_); rintro e w8 ⟨rfl, rfl⟩)
  change bodyPost _ _ _ _ _ (setEnt w1 r slt0)
  obtain ⟨B6, hc6⟩ := setEnt_blk B2.out slt0
  have hb6 : Below w.heap.size w (setEnt w1 r slt0) := below_chg hbW hc6 (fun b hb e => by have e2 : b = r := e; omega) hbW.size
  generalize setEnt w1 r slt0 = w6 at *
  clear r0 r1 r2 r3 r4 r5 r6 r7 r8 r9 r10 r11 r12 r13 rf
  obtain ⟨r0, r1, r2, r3, r4, r5, r6, r7, r8, r9, r10, r11, r12, r13, -⟩ := ent_blk B6
  clear B6 hc6
  replace hb6 := Lib.hid hb6
  refine bodyPost_ret (v := .tuple #[(slt0).val, .bool false]) (by simp [results, Tryz.results16, go_sem, r0, r1, r2, r3, r4, r5, r6, r7, r8, r9, r10, r11, r12, r13]) rfl ?_
  exact ⟨rfl, by have := hb6.out; rwa [hp] at *⟩
set_option maxRecDepth 100000 in
set_option maxHeartbeats 4000000 in
theorem tab_open_nil (t : Tup) (bk fl : Int) (w : World) : Calls Tryz.prog 13 #[.pointer none, t.val, .int .i64 bk, .int .i64 fl] w fun e w' => e = .returned (.tuple #[slt0.val, .int .i64 1]) ∧ Below w.heap.size w w' := by
  have hb0 : Below w.heap.size w (w.alloc (.cells t.cells.toArray 37)) := below_alloc (Below.refl _ _) _
  have P0 := Blk.new w 37 t.cells.toArray
  have B1 := Blk.new (w.alloc (.cells t.cells.toArray 37)) 55 slt0.entA
  have P1 := P0.alloc (.cells slt0.entA 55)
  have hb1 : Below w.heap.size w ((w.alloc (.cells t.cells.toArray 37)).alloc (.cells slt0.entA 55)) := below_alloc hb0 _
  rw [World.size_alloc] at B1
  clear hb0 P0
  replace B1 := Lib.hid B1
  go_enter Tryz.func13, Tryz.ntmps13
  go_upto_region 1 with fail
  change Code.wp _ _ _ _ ((w.alloc (.cells t.cells.toArray 37)).alloc (.cells slt0.entA 55))
  obtain ⟨r, hr⟩ : ∃ r, w.heap.size + 1 = r := ⟨_, rfl⟩
  obtain ⟨p, hp⟩ : ∃ p, w.heap.size = p := ⟨_, rfl⟩
  rw [hr] at B1
  rw [hp] at P1
  generalize (w.alloc (.cells t.cells.toArray 37)).alloc (.cells slt0.entA 55) = w1 at *
  try rw [hr]
  try rw [hp]
  have BG := Lib.hid fun W => begin_any t.p fl W
  have p0 : w1.cell? ⟨p, 0, none⟩ = some (.int .i64 t.p) := P1.cell 0
  clear P1
  have B2 := B1
  have hbW := hb1
  obtain ⟨r0, r1, r2, r3, r4, r5, r6, r7, r8, r9, r10, r11, r12, r13, rf⟩ := ent_blk B2.out
  go_wp2_with (first
    | (go_at_call 35; (with_reducible refine (BG.out _).mono ?_); rintro e w8 ⟨rfl, rfl⟩)
    | (go_at_call 33; (with_reducible refine (tab_given_nil _).mono ?_); rintro e w8 ⟨rfl, rfl⟩))
  change bodyPost _ _ _ _ _ (setEnt w1 r slt0)
  obtain ⟨B6, hc6⟩ := setEnt_blk B2.out slt0
  have hb6 : Below w.heap.size w (setEnt w1 r slt0) := below_chg hbW hc6 (fun b hb e => by have e2 : b = r := e; omega) hbW.size
  generalize setEnt w1 r slt0 = w6 at *
  clear r0 r1 r2 r3 r4 r5 r6 r7 r8 r9 r10 r11 r12 r13 rf
  obtain ⟨r0, r1, r2, r3, r4, r5, r6, r7, r8, r9, r10, r11, r12, r13, -⟩ := ent_blk B6
  clear B6 hc6
  replace hb6 := Lib.hid hb6
  refine bodyPost_ret (v := .tuple #[(slt0).val, .int .i64 1]) (by simp [results, Tryz.results13, go_sem, r0, r1, r2, r3, r4, r5, r6, r7, r8, r9, r10, r11, r12, r13]) rfl ?_
  exact ⟨rfl, by have := hb6.out; rwa [hp] at *⟩
end
end Go.Proofs.YtmkknjhalcocmaaGreat
