/- wheel: what a wheel is in memory; its small functions. -/
import Derived.Test.YtfpepgeaaadpdaaWheelA
import Derived.Test.YtfpepgeaaadpdaaLoadE
import Derived.Maps.OwnSet
import Derived.Deep.QuietTactic
namespace Go.Proofs.Ytfpepgeaaadpdaa
open Go Go.RowKit Go.Deep Go.Maps Go.ChangeMaps

/-! Numbers that are due, by the numbers' order. -/
def lmHas (M : LM) (id : Int) : Bool := M.any fun x => x.1 == id
theorem lm_has (M : LM) (id : Int) : Maps.has (lmD M) (ilit id) = lmHas M id := by
  show (lmE M).any (fun p => p.1.sameKey (ilit id)) = _
  unfold lmE lmHas
  rw [List.any_map]
  congr 1
  funext x
  exact ilit_same _ _
theorem lm_size (M : LM) : Maps.size (lmD M) = M.length := by
  show (lmE M).length = _
  unfold lmE
  rw [List.length_map]
theorem Imap.look2 {w : World} {b : Nat} {M : LM} (h : Imap w b M) {id : Int} (hk : (Lit.int .i64 id).wf = true) :
    (Instr.lookup 46 (.map (some b)) (.int .i64 id) true).run Try.prog w = .ok (.tuple #[.int .i64 (lmGet M id), .bool (lmHas M id)]) w := by
  obtain ⟨v, ps, hrun, hat⟩ := World.ownsMap.look_ok h int_law Try.underlying46 (int_zero w) (plainElem_int Try.underlying3 (by decide)) (int_key hk)
  obtain ⟨c, rfl, hc, _⟩ := plainElem_int_inv Try.underlying3 hat
  simp only [Prod.mk.injEq] at hc
  have := (lm_at M id).symm.trans hc.1
  simp [ilit] at this
  rw [hrun, this, lm_has]
theorem Imap.len {w : World} {b : Nat} {M : LM} (h : Imap w b M) : (Builtin.len_ #[46] 3 #[.map (some b)]).run Try.prog w = .ok (.int .i64 M.length) w := by
  have := World.ownsMap.len h Try.underlying46 3
  rw [lm_size] at this
  exact this
/-- A wheel: its granule and time, what is due, the rows, the row of each number. -/
structure WhAt (w : World) (base g bm : Nat) (G now : Int) (M : LM) (R : Nat → List Int) (A : Nat → Option Addr) (C : Nat → Nat) (T : Nat → Int) (Z : Array Value) : Prop where
  blk : Blk w g 50 Z
  size : Z.size = 4163
  z0 : Z[0]? = some (.int .i64 G)
  z1 : Z[1]? = some (.int .i64 now)
  z2 : Z[2]? = some (.map (some bm))
  row : ∀ k, k < 64 → Z[3 + k]? = some (.slice (A k) (R k).length (C k))
  own : ∀ k, k < 64 → OwnI w base (A k) (C k) (R k)
  apart : ∀ k j, k < 64 → j < 64 → k ≠ j → ∀ b, InB (A k) b → ¬ InB (A j) b
  at_ : ∀ i, i < 4096 → Z[67 + i]? = some (.int .i32 (T i))
  map : Imap w bm M
  gb : base ≤ g
  mb : base ≤ bm
section
variable {w w' : World} {base g bm : Nat} {G now : Int} {M : LM} {R : Nat → List Int} {A : Nat → Option Addr} {C : Nat → Nat} {T : Nat → Int} {Z : Array Value}
theorem WhAt.call (h : WhAt w base g bm G now M R A C T Z) (hb : Below w.heap.size w w') : WhAt w' base g bm G now M R A C T Z :=
  ⟨h.blk.call hb, h.size, h.z0, h.z1, h.z2, h.row, fun k hk => (h.own k hk).call hb, h.apart, h.at_, h.map.call hb, h.gb, h.mb⟩
theorem WhAt.cell (h : WhAt w base g bm G now M R A C T Z) {i : Nat} {v : Value} (hz : Z[i]? = some v) : w.cell? ⟨g, i, none⟩ = some v := (h.blk.cell i).trans hz
/-- The blocks that are a wheel's. -/
def whF (g bm : Nat) (A : Nat → Option Addr) (b : Nat) : Prop := b = g ∨ b = bm ∨ ∃ k, k < 64 ∧ InB (A k) b
theorem WhAt.chg {F : Nat → Prop} (h : WhAt w base g bm G now M R A C T Z) (k : Chg F w w') (hF : ∀ b, F b → ¬ whF g bm A b) : WhAt w' base g bm G now M R A C T Z :=
  ⟨h.blk.chg k (fun e => hF _ e (.inl rfl)), h.size, h.z0, h.z1, h.z2, h.row, fun j hj => (h.own j hj).chg k (fun b hb e => hF b e (.inr (.inr ⟨j, hj, hb⟩))), h.apart, h.at_, h.map.chg k (fun e => hF _ e (.inr (.inl rfl))), h.gb, h.mb⟩
theorem WhAt.whF_lt (h : WhAt w base g bm G now M R A C T Z) {b : Nat} (hb : whF g bm A b) : base ≤ b ∧ b < w.heap.size := by
  rcases hb with rfl | rfl | ⟨k, hk, hb⟩
  · exact ⟨h.gb, h.blk.lt⟩
  · exact ⟨h.mb, h.map.lt⟩
  · exact (h.own k hk).block hb
theorem WhAt.below_of (h : WhAt w base g bm G now M R A C T Z) (k : Chg (whF g bm A) w w') : Below base w w' :=
  k.below (fun b hb e => by have := (h.whF_lt e).1; omega) (by have := h.gb; have := h.blk.lt; omega)
theorem wheel_given_nil (w : World) : Calls Try.prog 19 #[.pointer none] w fun e w' => e = .returned (.bool false) ∧ w = w' := by
  go_enter Try.func19, Try.ntmps19
  go_wp2_with fail
  go_ret
  exact ⟨rfl, rfl⟩
theorem wheel_given_plain {Z : Array Value} {g : Nat} {w : World} (h : Blk w g 50 Z) (hz : Z[0]? = some (.int .i64 0)) : Calls Try.prog 19 #[.pointer (some ⟨g, 0, none⟩)] w fun e w' => e = .returned (.bool false) ∧ w = w' := by
  have c0 := (h.cell 0).trans hz
  clear h hz
  go_enter Try.func19, Try.ntmps19
  go_wp2_with fail
  go_ret
  exact ⟨rfl, rfl⟩
theorem wheel_given (h : WhAt w base g bm G now M R A C T Z) (hG : 0 < G) : Calls Try.prog 19 #[.pointer (some ⟨g, 0, none⟩)] w fun e w' => e = .returned (.bool true) ∧ w = w' := by
  have c0 := h.cell h.z0
  have hd : decide (0 < G) = true := by simpa using hG
  clear h
  go_enter Try.func19, Try.ntmps19
  go_wp2_with fail
  go_ret
  exact ⟨by first | rfl | simp [hd], rfl⟩
/-- A time's turn. -/
def turnI (G due : Int) : Int := (due + G - 1) / G
theorem wheel_turn (h : WhAt w base g bm G now M R A C T Z) (hG : 1 ≤ G ∧ G ≤ 1024) (due : Int) (hd : 0 ≤ due ∧ due ≤ 2199023255552) : Calls Try.prog 28 #[.pointer (some ⟨g, 0, none⟩), .int .i64 due] w fun e w' => e = .returned (.int .i64 (turnI G due)) ∧ ∃ n, w' = w.drewN n := by
  have c0 := h.cell h.z0
  have hq : (due + G - 1) / G = turnI G due := rfl
  have hz : (G == 0) = false := by rw [beq_eq_false_iff_ne]; omega
  generalize turnI G due = r at *
  replace hq := Lib.hid hq
  clear h
  go_enter Try.func28, Try.ntmps28
  go_wp2_with fail
  go_quiet (fail)
  go_wp2_with fail
  go_ret
  exact ⟨by rw [← hq.out]; rfl, _, rfl⟩
theorem wheel_now_nil (w : World) : Calls Try.prog 17 #[.pointer none] w fun e w' => e = .returned (.int .i64 0) ∧ w = w' := by
  go_enter Try.func17, Try.ntmps17
  go_wp2_with fail
  refine (wheel_given_nil _).mono ?_
  rintro e w1 ⟨rfl, rfl⟩
  go_wp2_with fail
  go_ret
  exact ⟨rfl, rfl⟩
theorem wheel_now (h : WhAt w base g bm G now M R A C T Z) (hG : 0 < G) : Calls Try.prog 17 #[.pointer (some ⟨g, 0, none⟩)] w fun e w' => e = .returned (.int .i64 now) ∧ w = w' := by
  have GV := Lib.hid (wheel_given h hG)
  have c1 := h.cell h.z1
  clear h
  go_enter Try.func17, Try.ntmps17
  go_wp2_with fail
  refine GV.out.mono ?_
  rintro e w1 ⟨rfl, rfl⟩
  go_wp2_with fail
  go_ret
  exact ⟨rfl, rfl⟩
theorem wheel_len_plain {Z : Array Value} {g : Nat} {w : World} (h : Blk w g 50 Z) (hz : Z[0]? = some (.int .i64 0)) : Calls Try.prog 18 #[.pointer (some ⟨g, 0, none⟩)] w fun e w' => e = .returned (.int .i64 0) ∧ w = w' := by
  have GV := Lib.hid (wheel_given_plain h hz)
  clear h hz
  go_enter Try.func18, Try.ntmps18
  go_wp2_with fail
  refine GV.out.mono ?_
  rintro e w1 ⟨rfl, rfl⟩
  go_wp2_with fail
  go_ret
  exact ⟨rfl, rfl⟩
theorem wheel_len (h : WhAt w base g bm G now M R A C T Z) (hG : 0 < G) : Calls Try.prog 18 #[.pointer (some ⟨g, 0, none⟩)] w fun e w' => e = .returned (.int .i64 M.length) ∧ w = w' := by
  have GV := Lib.hid (wheel_given h hG)
  have c2 := h.cell h.z2
  have hl := h.map.len
  clear h
  go_enter Try.func18, Try.ntmps18
  go_wp2_with fail
  refine GV.out.mono ?_
  rintro e w1 ⟨rfl, rfl⟩
  go_wp2_with fail
  go_ret
  exact ⟨rfl, rfl⟩
theorem wheel_due_nil (id : Int) (w : World) : Calls Try.prog 12 #[.pointer none, .int .i64 id] w fun e w' => e = .returned (.tuple #[.int .i64 0, .bool false]) ∧ w = w' := by
  go_enter Try.func12, Try.ntmps12
  go_wp2_with fail
  refine (wheel_given_nil _).mono ?_
  rintro e w1 ⟨rfl, rfl⟩
  go_wp2_with fail
  go_ret2
  exact ⟨rfl, rfl⟩
theorem wheel_due_plain {Z : Array Value} {g : Nat} {w : World} (id : Int) (h : Blk w g 50 Z) (hz : Z[0]? = some (.int .i64 0)) : Calls Try.prog 12 #[.pointer (some ⟨g, 0, none⟩), .int .i64 id] w fun e w' => e = .returned (.tuple #[.int .i64 0, .bool false]) ∧ w = w' := by
  have GV := Lib.hid (wheel_given_plain h hz)
  clear h hz
  go_enter Try.func12, Try.ntmps12
  go_wp2_with fail
  refine GV.out.mono ?_
  rintro e w1 ⟨rfl, rfl⟩
  go_wp2_with fail
  go_ret2
  exact ⟨rfl, rfl⟩
theorem wheel_due (h : WhAt w base g bm G now M R A C T Z) (hG : 0 < G) (id : Int) (hk : (Lit.int .i64 id).wf = true) : Calls Try.prog 12 #[.pointer (some ⟨g, 0, none⟩), .int .i64 id] w fun e w' => e = .returned (.tuple #[.int .i64 (lmGet M id), .bool (lmHas M id)]) ∧ w = w' := by
  have GV := Lib.hid (wheel_given h hG)
  have c2 := h.cell h.z2
  have hl := h.map.look2 hk
  clear h
  go_enter Try.func12, Try.ntmps12
  go_wp2_with fail
  refine GV.out.mono ?_
  rintro e w1 ⟨rfl, rfl⟩
  go_wp2_with fail
  go_ret2
  exact ⟨rfl, rfl⟩
/-- The row in which a number waits. -/
def rowI (G now due : Int) : Int := (max (turnI G due) (now / G)) % 64
set_option maxHeartbeats 2000000 in
theorem wheel_row (h : WhAt w base g bm G now M R A C T Z) (hG : 1 ≤ G ∧ G ≤ 1024) (hn : 0 ≤ now ∧ now ≤ 2199023255552) (due : Int) (hd : 0 ≤ due ∧ due ≤ 2199023255552) : Calls Try.prog 20 #[.pointer (some ⟨g, 0, none⟩), .int .i64 due] w fun e w' => e = .returned (.int .i64 (rowI G now due)) ∧ ∃ n, w' = w.drewN n := by
  have TU := fun n => wheel_turn (w := w.drewN n) ⟨h.blk, h.size, h.z0, h.z1, h.z2, h.row, h.own, h.apart, h.at_, h.map, h.gb, h.mb⟩ hG due hd
  have c0 := h.cell h.z0
  have c1 := h.cell h.z1
  have hz : (G == 0) = false := by rw [beq_eq_false_iff_ne]; omega
  obtain ⟨r, hr⟩ : ∃ r, rowI G now due = r := ⟨_, rfl⟩
  have htm : (max (turnI G due) (now / G)).tmod 64 = rowI G now due := by
    have h1 : 0 ≤ now / G := Int.ediv_nonneg (by omega) (by omega)
    exact Int.tmod_eq_emod_of_nonneg (by omega)
  rw [hr] at htm ⊢
  clear hr
  generalize turnI G due = t at *
  have C0 : ∀ n, (w.drewN n).cell? ⟨g, 0, none⟩ = some (.int .i64 G) := fun n => c0
  have C1 : ∀ n, (w.drewN n).cell? ⟨g, 1, none⟩ = some (.int .i64 now) := fun n => c1
  replace TU := Lib.hid TU
  replace htm := Lib.hid htm
  clear h
  go_enter Try.func20, Try.ntmps20
  go_wp2_with fail
  go_quiet ((go_at_call 28; with_reducible exact Calls.quiet_of (TU.out _)))
  go_wp2_with fail
  go_ret
  exact ⟨by rw [← htm.out]; rfl, _, rfl⟩
end
theorem wheel_new_bad (G : Int) (w : World) (h : G < 1 ∨ 1024 < G) : Calls Try.prog 6 #[.int .i64 G] w fun e w' => e = .returned (.pointer none) ∧ w = w' := by
  by_cases h1 : G < 1
  · have d1 : decide (G < 1) = true := by simpa using h1
    clear h
    go_enter Try.func6, Try.ntmps6
    go_wp2_with fail
    go_ret
    exact ⟨rfl, rfl⟩
  · have d1 : decide (G < 1) = false := by simpa using h1
    have d2 : decide (1024 < G) = true := by simp; omega
    clear h
    go_enter Try.func6, Try.ntmps6
    go_wp2_with fail
    go_ret
    exact ⟨rfl, rfl⟩
theorem whZ (G : Int) (bm : Nat) (Z : Array Value) (hZ : Z = (wzL.toArray.setIfInBounds 0 (.int .i64 G)).setIfInBounds 2 (.map (some bm))) :
    Z.size = 4163 ∧ Z[0]? = some (.int .i64 G) ∧ Z[1]? = some (.int .i64 0) ∧ Z[2]? = some (.map (some bm)) ∧ (∀ k, k < 64 → Z[3 + k]? = some (.slice none 0 0)) ∧ ∀ i, i < 4096 → Z[67 + i]? = some (.int .i32 0) := by
  have hs : wzL.toArray.size = 4163 := by rw [List.size_toArray]; exact wzL_len
  have hz1 : wzL.toArray[1]? = some (.int .i64 0) := by
    rw [List.getElem?_toArray]
    unfold wzL
    rw [List.getElem?_cons_succ, List.getElem?_cons_zero]
  have hr : ∀ k, k < 64 → wzL.toArray[3 + k]? = some (.slice none 0 0) := fun k hk => by rw [List.getElem?_toArray]; exact wzL_row hk
  have ha : ∀ i, i < 4096 → wzL.toArray[67 + i]? = some (.int .i32 0) := fun i hi => by rw [List.getElem?_toArray]; exact wzL_at hi
  generalize wzL.toArray = Y at *
  subst hZ
  refine ⟨by simp [hs], ?_, ?_, ?_, fun k hk => ?_, fun i hi => ?_⟩
  · rw [Array.getElem?_setIfInBounds_ne (by omega), Array.getElem?_setIfInBounds_self_of_lt (by omega)]
  · rw [Array.getElem?_setIfInBounds_ne (by omega), Array.getElem?_setIfInBounds_ne (by omega)]
    exact hz1
  · rw [Array.getElem?_setIfInBounds_self_of_lt (by simp [hs])]
  · rw [Array.getElem?_setIfInBounds_ne (by omega), Array.getElem?_setIfInBounds_ne (by omega)]
    exact hr k hk
  · rw [Array.getElem?_setIfInBounds_ne (by omega), Array.getElem?_setIfInBounds_ne (by omega)]
    exact ha i hi
theorem wpList_build_wheel {w : World} {ops : Array Oper} {rest : List Oper} {o : Oper} {a : Act} {Q : Exit → Act → World → Prop} {Z : Array Value} {G : Int} {bm : Nat}
    (hg : o.guard = none) (x y : Operand) (hop : o.op = Op.build 50 #[(0, x), (2, y)]) (hx : a.eval x = .int .i64 G) (hy : a.eval y = .map (some bm)) (hZ : Z = (wzL.toArray.setIfInBounds 0 (.int .i64 G)).setIfInBounds 2 (.map (some bm)))
    (hK : wpList Try.prog ops Q rest (a.put o.dst (.agg Z)) w) : wpList Try.prog ops Q (o :: rest) a w := by
  refine wpList_plain hg fun K' hK' => ?_
  have hrun := run_build_wheel G bm w
  rw [← hZ] at hrun
  have he : (execOp a.eval o).run Try.prog w = .ok (.value (.agg Z)) w := by
    unfold execOp
    rw [hop]
    dsimp only
    simp only [Sem.run_bind, List.map_toArray, List.map_cons, List.map_nil, hx, hy, hrun, Result.andThen_ok, Sem.run_pure]
  unfold Oper.wp
  rw [he]
  exact hK' _ _ hK
theorem wheel_new (G : Int) (w : World) (h : 1 ≤ G ∧ G ≤ 1024) : Calls Try.prog 6 #[.int .i64 G] w fun e w' => ∃ g bm Z, e = .returned (.pointer (some ⟨g, 0, none⟩)) ∧ WhAt w' w.heap.size g bm G 0 [] (fun _ => []) (fun _ => none) (fun _ => 0) (fun _ => 0) Z ∧ Below w.heap.size w w' := by
  have d1 : decide (G < 1) = false := by simp; omega
  have d2 : decide (1024 < G) = false := by simp; omega
  have hmm := @run_makeMap Try.prog
  obtain ⟨Z, hZ⟩ : ∃ Z, Z = (wzL.toArray.setIfInBounds 0 (.int .i64 G)).setIfInBounds 2 (.map (some w.heap.size)) := ⟨_, rfl⟩
  obtain ⟨e1, e2, e3, e4, e5, e6⟩ := whZ G w.heap.size Z hZ
  have hb : Below w.heap.size w ((w.alloc (.map #[] 0)).alloc (.cells Z 50)) := below_alloc (below_alloc (Below.refl _ _) _) _
  have hB : Blk ((w.alloc (.map #[] 0)).alloc (.cells Z 50)) (w.heap.size + 1) 50 Z := by
    have := Blk.new (w.alloc (.map #[] 0)) 50 Z
    rwa [World.size_alloc] at this
  have hM : Imap ((w.alloc (.map #[] 0)).alloc (.cells Z 50)) w.heap.size [] := by
    have h0 : Imap (w.alloc (.map #[] 0)) w.heap.size [] := Imap.of (World.ownsMap_made w _ _ _)
    exact h0.call (below_alloc (Below.refl _ _) _)
  replace hZ := Lib.hid hZ
  go_enter Try.func6, Try.ntmps6
  go_wp2_with (refine wpList_build_wheel rfl _ _ rfl rfl rfl hZ.out ?_)
  go_ret
  exact ⟨w.heap.size + 1, w.heap.size, Z, rfl, ⟨hB, e1, e2, e3, e4, e5, fun k _ => OwnA.nil _ _, (fun k j _ _ _ b hi => by obtain ⟨a, ha, _⟩ := hi; cases ha), e6, hM, by omega, Nat.le_refl _⟩, hb⟩
end Go.Proofs.Ytfpepgeaaadpdaa
