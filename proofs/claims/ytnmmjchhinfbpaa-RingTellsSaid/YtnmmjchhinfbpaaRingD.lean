/- ring: the order of points; the sort. -/
import Derived.Test.YtnmmjchhinfbpaaRingC
import Derived.Test.YtnmmjchhinfbpaaRingL
import Derived.Test.YtnmmjchhinfbpaaNum
import Derived.StillTailTactics
namespace Go.Proofs.Ytnmmjchhinfbpaa
open Go Go.RowKit Go.Deep

/-- Draws, and blocks laid behind. -/
def Gr (w w' : World) : Prop := ∃ q os, w' = Sort.grow (w.drewN q) os
theorem Gr.refl (w : World) : Gr w w := ⟨0, #[], by rw [Sort.grow_empty]; rfl⟩
theorem Gr.alloc {w w1 : World} (h : Gr w w1) (o : Obj) : Gr w (w1.alloc o) := by
  obtain ⟨q, os, rfl⟩ := h
  exact ⟨q, os ++ #[o], by rw [Sort.alloc_eq_grow, Sort.grow_grow]⟩
theorem Gr.drewN {w w1 : World} (h : Gr w w1) (n : Nat) : Gr w (w1.drewN n) := by
  obtain ⟨q, os, rfl⟩ := h
  refine ⟨q + n, os, ?_⟩
  show Sort.grow ((w.drewN q).drewN n) os = _
  rw [World.drewN_drewN]
theorem Gr.drew {w w1 : World} (h : Gr w w1) : Gr w w1.drew := h.drewN 1
theorem rcompare_int (x y : Int) (w : World) : Calls Try.prog 57 #[.int .i64 x, .int .i64 y] w fun e w' => e = .returned (.int .i64 (cmpI x y)) ∧ w = w' := by
  go_enter Try.func57, Try.ntmps57
  go_wp2
  all_goals go_ret
  all_goals refine ⟨ret_int ?_, rfl⟩
  all_goals (unfold cmpI; repeat' split) <;> omega
theorem still_ofR {P : Program} {f : FuncId} {args : Array Value} {w : World} {v : Value} (h : Calls P f args w fun e w' => e = .returned v ∧ w = w') : Calls P f args w fun e w'' => e = .returned v ∧ w'' = w := h.mono fun _ _ ⟨h1, h2⟩ => ⟨h1, h2.symm⟩
def ordP (x y : Pt) : Int := orI (cmpI x.2 y.2) (cmpI x.1 y.1)
set_option maxRecDepth 100000 in
set_option maxHeartbeats 4000000 in
theorem order_any (x y : Pt) (w : World) : Calls Try.prog 33 #[.agg #[.int .i64 x.1, .int .u64 x.2], .agg #[.int .i64 y.1, .int .u64 y.2]] w fun e w' => e = .returned (.int .i64 (ordP x y)) ∧ Gr w w' := by
  obtain ⟨xi, xa⟩ := x
  obtain ⟨yi, ya⟩ := y
  unfold ordP
  dsimp only
  have C1 := fun W => compare_any xa ya W
  have C2 := fun W => rcompare_int xi yi W
  generalize cmpI xa ya = c1 at *
  generalize cmpI xi yi = c2 at *
  have OR := fun g W h => or_any c1 c2 g W h
  generalize orI c1 c2 = c3 at *
  replace C1 := Lib.hid C1
  replace C2 := Lib.hid C2
  replace OR := Lib.hid OR
  obtain ⟨w0, hw0⟩ : ∃ w0, w0 = (w.alloc (.cells #[.int .i64 xi, .int .u64 xa] 84)).alloc (.cells #[.int .i64 yi, .int .u64 ya] 84) := ⟨_, rfl⟩
  have hg : Gr w w0 := hw0 ▸ ((Gr.refl w).alloc _).alloc _
  have B1 : Blk w0 w.heap.size 84 #[.int .i64 xi, .int .u64 xa] := hw0 ▸ (Blk.new w _ _).alloc _
  have B2 : Blk w0 (w.heap.size + 1) 84 #[.int .i64 yi, .int .u64 ya] := by
    have := Blk.new (w.alloc (.cells #[.int .i64 xi, .int .u64 xa] 84)) 84 #[.int .i64 yi, .int .u64 ya]
    rw [← hw0] at this
    simpa using this
  have x0 := B1.cell 0
  have x1 := B1.cell 1
  have y0 := B2.cell 0
  have y1 := B2.cell 1
  simp only [List.getElem?_toArray, List.getElem?_cons_zero, List.getElem?_cons_succ] at x0 x1 y0 y1
  clear B1 B2
  go_enter Try.func33, Try.ntmps33
  go_wp2_with fail
  rw [← hw0]
  clear hw0
  refine wp_region_still_tail 12 (by kernel_rfl) (by kernel_rfl) ?_
  simp only [List.take_succ_cons, List.take_zero, List.drop_succ_cons, List.drop_zero]
  repeat still_step
  still_call (still_ofR (C1.out _))
  repeat still_step
  still_call (still_ofR (C2.out _))
  repeat still_step
  refine wpStill_nil ?_
  change wpList _ _ _ _ _ w0.drew
  have hg1 := hg.drew
  clear x0 x1 y0 y1 hg
  generalize w0.drew = w1 at *
  go_wp2_with (go_at_call 55; refine (OR.out _ _ (by exact Blk.new _ _ _)).mono ?_; rintro e w2 ⟨rfl, rfl⟩)
  go_ret
  exact ⟨rfl, hg1.alloc _⟩
/-! The sort. -/
theorem ordP_lt (x y : Pt) : ltOf ordP x y = ptLt x y := by
  unfold ltOf ordP orI cmpI ptLt
  by_cases h1 : x.2 < y.2
  · simp [h1]
  · by_cases h2 : y.2 < x.2
    · simp [h1, h2]
      omega
    · have e : x.2 = y.2 := by omega
      by_cases h3 : x.1 < y.1
      · simp [e, h3]
      · by_cases h4 : y.1 < x.1 <;> simp [e, h3, h4]
theorem swoP : Sort.SWO (ltOf ordP) where
  irrefl x := by rw [ordP_lt, ptLt_no]; omega
  trans x y z h1 h2 := by rw [ordP_lt, ptLt_iff] at *; omega
  ntrans x y z h1 h2 := by rw [ordP_lt, ptLt_no] at *; omega
theorem cmpLaysP (blk off size : Nat) (w : World) : CmpLays Try.prog 33 #[] pcell 2 ordP blk off size w :=
  fun _ _ _ _ x y => order_any x y _
theorem own_holds {w : World} {base gp cap : Nat} {P : List Pt} (h : OwnA pcell 2 84 w base (some ⟨gp, 0, none⟩) cap P) : Sort.HoldsK pcell 2 w gp 0 P.toArray := by
  intro t ht
  rw [Sort.size_flatK] at ht
  have ht' : t < P.length * 2 := by simpa using ht
  rw [Sort.get_flatK _ _ _ _ ht]
  have hk : t / 2 < P.length := by omega
  have hx : P[t / 2]? = some P[t / 2] := List.getElem?_eq_getElem hk
  have f := h.cellAt t (by omega)
  have e : t = t / 2 * 2 + t % 2 := by omega
  have g := flat_at pcell 2 (fun _ => rfl) P (t / 2) (t % 2) _ hx (Nat.mod_lt _ (by omega))
  rw [← e] at g
  rw [g] at f
  have hm : t % 2 = 0 ∨ t % 2 = 1 := by omega
  rw [Nat.zero_add]
  refine ⟨?_, h.frozenAt t⟩
  rw [f]
  have ea : P.toArray[t / 2]! = P[t / 2] := by simp [hk]
  rw [ea]
  rcases hm with e2 | e2 <;> rw [e2] <;> rfl
theorem holds_reads {w : World} {gp : Nat} {d : Array Pt} (h : Sort.HoldsK pcell 2 w gp 0 d) (hb : gp < w.heap.size) : Reads w w.heap.size 2 (some ⟨gp, 0, none⟩) d.toList.length (d.toList.flatMap pcell) := by
  have hl : (d.toList.flatMap pcell).length = d.toList.length * 2 := by
    induction d.toList with
    | nil => rfl
    | cons x r ih =>
      rw [List.flatMap_cons, List.length_append, ih]
      simp
      omega
  refine ⟨hl, fun _ => ⟨_, rfl, hb, fun j u hu => ?_⟩⟩
  have hj : j < d.size * 2 := by
    have := (List.getElem?_eq_some_iff.1 hu).1
    rw [hl] at this
    simpa using this
  have hk : j / 2 < d.size := by omega
  have hx : d.toList[j / 2]? = some d[j / 2] := by rw [List.getElem?_eq_getElem (by simpa using hk)]; rfl
  have g := flat_at pcell 2 (fun _ => rfl) d.toList (j / 2) (j % 2) _ hx (Nat.mod_lt _ (by omega))
  rw [show j / 2 * 2 + j % 2 = j by omega, hu] at g
  have f := (h.cell hk (Nat.mod_lt j (show 0 < 2 by omega))).1
  rw [show 0 + j / 2 * 2 + j % 2 = j by omega] at f
  have ea : d[j / 2]! = d[j / 2] := by simp [hk]
  rw [ea] at f
  have hm : j % 2 = 0 ∨ j % 2 = 1 := by omega
  show w.cell? ((⟨gp, 0, none⟩ : Addr).add j) = _
  have eb : (⟨gp, 0, none⟩ : Addr).add j = ⟨gp, j, none⟩ := by
    simp [Addr.add]
    intro h
    omega
  rw [eb, f]
  rcases hm with e2 | e2 <;> rw [e2] at g ⊢ <;> simpa using g.symm
theorem sortW_chg {w : World} {gp n : Nat} {d : Array Pt} {os : Array Obj} : Chg (· = gp) w (sortWorldK pcell 2 w gp 0 n d os) := by
  refine ⟨rfl, rfl, rfl, size_sortWorldK_c _ _ _ _ _ _ _ _, fun b hb hF => ?_⟩
  unfold sortWorldK
  have hz : b < (Sort.putRowK pcell 2 (Sort.ahead w n) gp 0 d).heap.size := by rw [Sort.size_putRowK]; exact hb
  rw [Sort.heap_grow_old _ _ hz]
  unfold Sort.putRowK Sort.putRow Sort.mapBlock
  show ((Sort.ahead w n).heap.modify gp _)[b]? = w.heap[b]?
  rw [Array.getElem?_modify, if_neg (fun e => hF e.symm)]
  rfl
set_option maxHeartbeats 2000000 in
theorem sort_any {w : World} {base gp cap : Nat} {P : List Pt} (h : OwnA pcell 2 84 w base (some ⟨gp, 0, none⟩) cap P) (hb : gp < w.heap.size) (hl : P.length ≤ 1000000) :
    Calls Try.prog 32 #[.slice (some ⟨gp, 0, none⟩) P.length cap, .func (Fn.func 33) #[] #[]] w fun e w' => e = .returned (.tuple #[]) ∧ ∃ S : List Pt, S.Perm P ∧ ptSorted S ∧ Reads w' w'.heap.size 2 (some ⟨gp, 0, none⟩) S.length (S.flatMap pcell) ∧ Chg (· = gp) w w' := by
  have eg : ∀ args w, (callFunc 33 args).run Try.prog w = .ok (.enter 33 args) w := enters_of Try.func33 (by kernel_rfl) rfl
  have hH := own_holds h
  have K := AnyQ.slices_SortFunc Try.sortPt 2 Try.isAgg84 Try.sizeOf84 pcell (fun _ => rfl) pcell_one ordP swoP 33 #[] gp 0 cap P.toArray w eg (cmpLaysP gp 0 P.toArray.size w) hH hb (by simp; omega)
  change Calls Try.prog 32 _ _ _ at K
  rw [show P.toArray.size = P.length by simp] at K
  refine K.mono ?_
  rintro e w' ⟨rfl, d', n, os, hp, hs, rfl⟩
  have hsz : d'.size = P.toArray.size := hp.1
  have hsz2 : d'.size = P.length := by simpa using hsz
  refine ⟨rfl, d'.toList, ?_, ?_, ?_, sortW_chg⟩
  · have := hp.2.2
    rw [show P.length = d'.size from hsz2.symm] at this
    have e1 : d'.extract 0 d'.size = d' := by simp
    have e2 : P.toArray.extract 0 d'.size = P.toArray := by rw [hsz]; simp
    rw [e1, e2] at this
    simpa using this
  · intro i j hi hj hij
    have hi' : i < d'.size := by simpa using hi
    have hj' : j < d'.size := by simpa using hj
    have := hs i j (Nat.zero_le _) hij (by omega)
    rw [ordP_lt] at this
    simpa [hi', hj'] using this
  · have hH2 := holdsK_sortWorldK_c pcell 2 w gp 0 P.toArray d' n os hH hb hsz
    exact holds_reads hH2 (Nat.lt_of_lt_of_le hb (size_sortWorldK_c _ _ _ _ _ _ _ _))
end Go.Proofs.Ytnmmjchhinfbpaa
