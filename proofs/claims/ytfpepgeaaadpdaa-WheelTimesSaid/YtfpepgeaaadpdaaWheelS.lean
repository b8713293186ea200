/- wheel: the chapter's example, and wheels that nobody made. -/
import Derived.Test.YtfpepgeaaadpdaaWheelR
namespace Go.Proofs.Ytfpepgeaaadpdaa
open Go Go.RowKit Go.Deep Go.Maps Go.ChangeMaps

theorem wpList_build_none {w : World} {ops : Array Oper} {rest : List Oper} {o : Oper} {a : Act} {Q : Exit → Act → World → Prop} {Z : Array Value}
    (hg : o.guard = none) (hop : o.op = Op.build 50 #[]) (hZ : Z = wzL.toArray)
    (hK : wpList Try.prog ops Q rest (a.put o.dst (.agg Z)) w) : wpList Try.prog ops Q (o :: rest) a w := by
  refine wpList_plain hg fun K' hK' => ?_
  have hrun := run_build_none w
  rw [← hZ] at hrun
  have he : (execOp a.eval o).run Try.prog w = .ok (.value (.agg Z)) w := by
    unfold execOp
    rw [hop]
    dsimp only
    simp only [Sem.run_bind, List.map_toArray, List.map_nil, hrun, Result.andThen_ok, Sem.run_pure]
  unfold Oper.wp
  rw [he]
  exact hK' _ _ hK
theorem wz0 : wzL.toArray[0]? = some (.int .i64 0) := by
  unfold wzL
  rw [List.getElem?_toArray, List.getElem?_cons_zero]
/-- What Go hands out, told by its numbers. -/
theorem wheel_go_mem {w : World} {base g bm : Nat} {G now : Int} {M : LM} {R : Nat → List Int} {A : Nat → Option Addr} {C : Nat → Nat} {T : Nat → Int} {Z : Array Value} (h : WhAt w base g bm G now M R A C T Z) (inv : RowInv M R T) (hw : wInv G now M T) (hG : 1 ≤ G ∧ G ≤ 1024) (hnow : 0 ≤ now) (nw : Int) (hn : now ≤ nw ∧ nw ≤ 1099511627776) (hbase : base ≤ w.heap.size) :
    Calls Try.prog 14 #[.pointer (some ⟨g, 0, none⟩), .int .i64 nw] w fun e w' => ∃ (P : Option Addr) (c : Nat) (S : List Int) (R' : Nat → List Int) (T' : Nat → Int) (Z' : Array Value), e = .returned (.tuple #[.slice P S.length c, .int .i64 0]) ∧ (∀ x, x ∈ S ↔ lmHas M x = true ∧ turnI G (lmGet M x) * G ≤ nw) ∧ S.Nodup ∧ S.Pairwise (leT G M) ∧
      Reads w' w'.heap.size 1 P S.length (S.map (.int .i64)) ∧ (∀ b, InB P b → w.heap.size ≤ b) ∧ WhAt w' base g bm G nw (delAll M S) R' A C T' Z' ∧ RowInv (delAll M S) R' T' ∧ wInv G nw (delAll M S) T' ∧ Chg (whF g bm A) w w' := by
  refine (wheel_go h inv hw hG hnow nw hn hbase).mono ?_
  rintro e w' ⟨P, c, S, R', T', Z', h1, h2, h3, h4, h4b, h5, h6, h7, h8⟩
  have hf1 : now / G ≤ nw / G := Int.ediv_le_ediv (by omega) hn.1
  exact ⟨P, c, S, R', T', Z', h1, fun x => h2.mem_iff.trans (out_mem inv hw hG.1 hnow hn.1 x), h2.nodup_iff.2 (out_nodup inv nw _ (by unfold cntI; omega)), h3, h4, h4b, h5, h6, h7, h8⟩
theorem wInv.none (G now : Int) (T : Nat → Int) : wInv G now [] T := fun id h => by cases h
theorem nodup_one {S : List Int} {x : Int} (hn : S.Nodup) (h : ∀ y, y ∈ S ↔ y = x) : S = [x] := by
  have : S.Perm [x] := (List.perm_ext_iff_of_nodup hn (by simp)).2 fun y => by rw [h]; simp
  exact List.perm_singleton.1 this
theorem one_has (x : Int) : lmHas [((3 : Int), (15 : Int))] x = true ↔ x = 3 := by
  unfold lmHas
  simp
  exact eq_comm
set_option maxRecDepth 100000 in
set_option maxHeartbeats 8000000 in
theorem awake17 (w : World) : Calls Try.prog 5 #[] w fun e w' => e = .returned (.bool true) ∧ Below w.heap.size w w' := by
  have N := Lib.hid (wheel_new 10 w (by omega))
  obtain ⟨Z0, hZ0⟩ : ∃ Z, Z = wzL.toArray := ⟨_, rfl⟩
  have hz0 : Z0[0]? = some (.int .i64 0) := by rw [hZ0]; exact wz0
  replace hZ0 := Lib.hid hZ0
  go_enter Try.func5, Try.ntmps5
  go_wp2_with fail
  refine N.out.mono ?_
  rintro e w1 ⟨g, bm, Z, rfl, h1, hb1⟩
  have S1 := Lib.hid (wheel_set h1 RowInv.none (by omega) (by omega) 3 (by omega) 15 (by omega) (by simp))
  replace h1 := Lib.hid h1
  go_wp2_with fail
  refine S1.out.mono ?_
  rintro e w2 ⟨rfl, R2, A2, C2, T2, Z2, h2, inv2, hT2, hTo2, hc2, -⟩
  have hb2 : Below w.heap.size w w2 := hb1.trans (h1.out.below_of hc2)
  have hw2 := (wInv.none 10 0 (fun _ => 0)).put (n := 3) (due := 15) (fun x hx => by cases hx) hT2 hTo2
  have G1 := Lib.hid (wheel_go_mem h2 inv2 hw2 (by omega) (by omega) 19 (by omega) hb2.size)
  replace h2 := Lib.hid h2
  clear S1 N h1 hc2 hT2 hTo2 hw2 inv2 hb1
  go_wp2_with fail
  refine G1.out.mono ?_
  rintro e w3 ⟨P3, c3, S3, R3, T3, Z3, rfl, hm3, -, -, -, -, h3, inv3, hw3, hc3⟩
  have hput : lmPut [] ((3 : Nat) : Int) 15 = [((3 : Int), (15 : Int))] := rfl
  rw [hput] at hm3 h3 inv3 hw3
  have hS3 : S3 = [] := List.eq_nil_iff_forall_not_mem.2 fun x hx => by
    obtain ⟨a1, a2⟩ := (hm3 x).1 hx
    obtain rfl := (one_has x).1 a1
    exact absurd a2 (by decide)
  subst hS3
  have hdel : delAll [((3 : Int), (15 : Int))] [] = [((3 : Int), (15 : Int))] := rfl
  rw [hdel] at h3 inv3 hw3
  have hb3 : Below w.heap.size w w3 := hb2.trans (h2.out.below_of hc3)
  have G2 := Lib.hid (wheel_go_mem h3 inv3 hw3 (by omega) (by omega) 20 (by omega) hb3.size)
  replace h3 := Lib.hid h3
  clear G1 h2 hc3 hb2 hm3 inv3 hw3 hput hdel
  go_wp2_with fail
  refine G2.out.mono ?_
  rintro e w4 ⟨P4, c4, S4, R4, T4, Z4, rfl, hm4, hn4, -, hr4, -, -, -, -, hc4⟩
  have hS4 : S4 = [3] := nodup_one hn4 fun y => by
    rw [hm4]
    constructor
    · exact fun h => (one_has y).1 h.1
    · rintro rfl
      exact ⟨(one_has 3).2 rfl, by decide⟩
  subst hS4
  have hb4 : Below w.heap.size w w4 := hb3.trans (h3.out.below_of hc4)
  obtain ⟨ad, hP4, hbl4, hc4x⟩ := hr4.int_at (i := 0) (by simp)
  subst hP4
  simp at hc4x
  have hX : ∀ W, Below w4.heap.size w4 W → W.cell? ad = some (.int .i64 3) := fun W hb => (hb.cell hbl4).trans (by simpa [Addr.add] using hc4x)
  replace hX := Lib.hid hX
  clear G2 h3 hc4 hm4 hn4 hr4 hb3 hc4x
  have NG := Lib.hid (wheel_go_nil 1)
  go_wp2_with (first | (refine wpList_build_none rfl rfl hZ0.out ?_))
  have B5 := Blk.new w4 50 Z0
  have hb5 : Below w4.heap.size w4 (w4.alloc (.cells Z0 50)) := below_alloc (Below.refl _ _) _
  generalize w4.alloc (.cells Z0 50) = w5 at *
  refine (NG.out _).mono ?_
  rintro e w6 ⟨rfl, hb6⟩
  have B6 := B5.call hb6
  have hb46 := below_chain hb6 hb5
  have PG := Lib.hid (wheel_go_plain 1 B6 hz0)
  clear NG B5 hb5 hb6
  go_wp2_with fail
  refine PG.out.mono ?_
  rintro e w7 ⟨rfl, hb7⟩
  have B7 := B6.call hb7
  have hb47 := below_chain hb7 hb46
  have hx7 := hX.out w7 hb47
  have hw7 : Below w.heap.size w w7 := hb4.trans (hb47.mono hb4.size)
  replace B7 := Lib.hid B7
  clear PG B6 hb7 hb46 hX
  go_wp2_with (first
    | (go_at_call 8; (with_reducible refine (wheel_set_nil _ _ _).mono ?_); rintro e w8 ⟨rfl, rfl⟩)
    | (go_at_call 8; (with_reducible refine (wheel_set_plain _ _ B7.out hz0).mono ?_); rintro e w8 ⟨rfl, rfl⟩)
    | (go_at_call 10; (with_reducible refine (wheel_unset_nil _ _).mono ?_); rintro e w8 ⟨rfl, rfl⟩)
    | (go_at_call 10; (with_reducible refine (wheel_unset_plain _ B7.out hz0).mono ?_); rintro e w8 ⟨rfl, rfl⟩)
    | (go_at_call 17; (with_reducible refine (wheel_now_nil _).mono ?_); rintro e w8 ⟨rfl, rfl⟩)
    | (go_at_call 18; (with_reducible refine (wheel_len_plain B7.out hz0).mono ?_); rintro e w8 ⟨rfl, rfl⟩))
  go_ret
  exact ⟨rfl, hw7⟩
end Go.Proofs.Ytfpepgeaaadpdaa
