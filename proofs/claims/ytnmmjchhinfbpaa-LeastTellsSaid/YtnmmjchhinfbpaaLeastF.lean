/- least: the check of an example. -/
import Derived.Test.YtnmmjchhinfbpaaLeastD
import Derived.Test.YtnmmjchhinfbpaaLeastB
namespace Go.Proofs.Ytnmmjchhinfbpaa
open Go Go.RowKit Go.Deep Go.Maps Go.ChangeMaps

theorem brd_0 : brdB 0 1 1 = 0 := by kernel_rfl
theorem brd_9 : brdB 4621256167635550208 1 2 = 4621256167635550208 := by kernel_rfl
theorem brd_1 : brdB 4607182418800017408 1 2 = 4607182418800017408 := by kernel_rfl
theorem burden_0 : BurdenIs 0 1 1 9223372036854775808 := ⟨by omega, by rw [brd_0]; rfl⟩
theorem burden_9 : BurdenIs 4621256167635550208 1 2 13844628204490326016 := ⟨by omega, by rw [brd_9]; rfl⟩
theorem eq_1 : (FloatKind.f64.format.order 4607182418800017408 4607182418800017408 == some Ordering.eq) = true := by kernel_rfl
theorem load_alloc {w : World} {g b : Nat} {M : LM} (h : LoadAt w g b M) (o : Obj) : LoadAt (w.alloc o) g b M := h.call (below_alloc (Below.refl _ _) o)
def exl : List Bk := [⟨1, 1, 0, false, 0, 0⟩, ⟨2, 2, 0, false, 0, 0⟩]
def exM : LM := [(1, 1), (2, 1)]
def exf : Int → Nat := fun j => if j = 2 then 4621256167635550208 else 0
def exk : Bk → Int := fun b => if b.id = 2 then 13844628204490326016 else 9223372036854775808
theorem ex_burden : ∀ x ∈ exl, BurdenIs (exf x.id) (lmGet exM x.id) x.w (exk x) := by
  intro x hx
  unfold exl at hx
  simp only [List.mem_cons, List.not_mem_nil, or_false] at hx
  rcases hx with rfl | rfl
  · exact burden_0
  · exact burden_9
theorem ex_quick : quickId exk exl = 1 := by kernel_rfl
theorem ex_least : leastId exM exl = 2 := by kernel_rfl
theorem ex_wf : ∀ x ∈ exl, bkWf x := by
  intro x hx
  unfold exl at hx
  simp only [List.mem_cons, List.not_mem_nil, or_false] at hx
  rcases hx with rfl | rfl <;> exact wf_i64_mk (by decide) (by decide)
set_option maxRecDepth 100000 in
set_option maxHeartbeats 4000000 in
theorem awake27 (w : World) : Calls Try.prog 18 #[] w fun e w' => e = .returned (.bool true) ∧ Below w.heap.size w w' := by
  have N := Lib.hid load_new
  have m1 : lmAdd [] 1 1 = [(1, 1)] := by decide
  have m2 : lmAdd [(1, 1)] 2 1 = exM := by decide
  have A1 := fun g b W h => load_add g b [] 1 1 W h (by decide) (fun x hx => by simp at hx) (by simp)
  have A2 := fun g b W h => load_add g b [(1, 1)] 2 1 W h (by decide) (fun x hx => by simp at hx; subst hx; simp) (by simp)
  rw [m1] at A1
  rw [m2] at A2
  have PK := fun P c g b W hr h => least_pick 0 exl P c g b exM W hr (by decide) h ex_wf
  rw [ex_least] at PK
  have PN := fun (g b : Nat) (W : World) (h : LoadAt W g b exM) => least_pick 0 [] none 0 g b exM W Reads.none_ (by simp) h (fun x hx => by simp at hx)
  have QK := fun P c g b bm n W hr h hm => quick_any 0 exl P c g b bm n exM exf exk W hr (by decide) h hm ex_wf ex_burden
  rw [ex_quick] at QK
  have BU := fun W => burden_all 4607182418800017408 1 2 (by omega) W
  rw [brd_1] at BU
  have hlen : exl.length = 2 := rfl
  rw [hlen, show decide (0 < 2) = true from rfl] at PK QK
  rw [show leastId exM [] = 0 from rfl, show decide (0 < ([] : List Bk).length) = false from rfl, show ([] : List Bk).length = 0 from rfl] at PN
  have hfe : (fun j : Int => if j = 2 then 4621256167635550208 else (fun _ => 0 : Int → Nat) j) = exf := rfl
  replace A1 := Lib.hid A1
  replace A2 := Lib.hid A2
  replace PK := Lib.hid PK
  replace PN := Lib.hid PN
  replace QK := Lib.hid QK
  replace BU := Lib.hid BU
  replace hfe := Lib.hid hfe
  have heq := eq_1
  clear m1 m2 hlen
  go_enter Try.func18, Try.ntmps18
  go_wp2_with fail
  refine (N.out _).mono ?_
  rintro e w1 ⟨g, b, rfl, h1, hg, hbb, hb1⟩
  go_wp2_with fail
  refine (A1.out g b _ h1).mono ?_
  rintro e w2 ⟨rfl, h2, hc2⟩
  have hb2 := below_chg hb1 hc2 (fun b' hb' e => by omega) hb1.size
  clear h1 hc2 hb1
  go_wp2_with fail
  refine (A2.out g b _ h2).mono ?_
  rintro e w3 ⟨rfl, h3, hc3⟩
  have hb3 := below_chg hb2 hc3 (fun b' hb' e => by omega) hb2.size
  clear h2 hc3 hb2
  go_upto_region 5 with (fail)
  have r4 : Reads ((w3.alloc (.cells #[.int .i64 1, .int .i64 1, .int .i64 0, .bool false, .int .u64 0, .int .u64 0, .int .i64 2, .int .i64 2, .int .i64 0, .bool false, .int .u64 0, .int .u64 0] 46)).alloc (.cells #[.int .i64 0, .slice (some ⟨w3.heap.size, 0, none⟩) 2 2] 37)) (w3.heap.size + 1) 6 (some ⟨w3.heap.size, 0, none⟩) 2 (exl.flatMap Bk.cells) :=
    (lits_read w3 (w3.heap.size + 1) 6 2 46 [.int .i64 1, .int .i64 1, .int .i64 0, .bool false, .int .u64 0, .int .u64 0, .int .i64 2, .int .i64 2, .int .i64 0, .bool false, .int .u64 0, .int .u64 0] rfl (by omega)).alloc (by simp) _
  have S4 : Blk ((w3.alloc (.cells #[.int .i64 1, .int .i64 1, .int .i64 0, .bool false, .int .u64 0, .int .u64 0, .int .i64 2, .int .i64 2, .int .i64 0, .bool false, .int .u64 0, .int .u64 0] 46)).alloc (.cells #[.int .i64 0, .slice (some ⟨w3.heap.size, 0, none⟩) 2 2] 37)) (w3.heap.size + 1) 37 #[.int .i64 0, .slice (some ⟨w3.heap.size, 0, none⟩) 2 2] := by
    have := Blk.new (w3.alloc (.cells #[.int .i64 1, .int .i64 1, .int .i64 0, .bool false, .int .u64 0, .int .u64 0, .int .i64 2, .int .i64 2, .int .i64 0, .bool false, .int .u64 0, .int .u64 0] 46)) 37 #[.int .i64 0, .slice (some ⟨w3.heap.size, 0, none⟩) 2 2]
    simp only [World.size_alloc] at this
    exact this
  have h4 := load_alloc (load_alloc h3 (.cells #[.int .i64 1, .int .i64 1, .int .i64 0, .bool false, .int .u64 0, .int .u64 0, .int .i64 2, .int .i64 2, .int .i64 0, .bool false, .int .u64 0, .int .u64 0] 46)) (.cells #[.int .i64 0, .slice (some ⟨w3.heap.size, 0, none⟩) 2 2] 37)
  have hb4 := below_alloc (below_alloc hb3 (.cells #[.int .i64 1, .int .i64 1, .int .i64 0, .bool false, .int .u64 0, .int .u64 0, .int .i64 2, .int .i64 2, .int .i64 0, .bool false, .int .u64 0, .int .u64 0] 46)) (.cells #[.int .i64 0, .slice (some ⟨w3.heap.size, 0, none⟩) 2 2] 37)
  clear h3 hb3
  generalize (w3.alloc (.cells #[.int .i64 1, .int .i64 1, .int .i64 0, .bool false, .int .u64 0, .int .u64 0, .int .i64 2, .int .i64 2, .int .i64 0, .bool false, .int .u64 0, .int .u64 0] 46)).alloc (.cells #[.int .i64 0, .slice (some ⟨w3.heap.size, 0, none⟩) 2 2] 37) = w4 at *
  have hz := S4.lt
  generalize hgl : w3.heap.size = gl at *
  clear hgl
  have s0 := S4.cell 0
  have s1 := S4.cell 1
  simp only [List.getElem?_toArray, List.getElem?_cons_zero, List.getElem?_cons_succ] at s0 s1
  go_wp2_with fail
  refine (PK.out _ _ g b _ (r4.more (by omega)) h4).mono ?_
  rintro e w5 ⟨rfl, hb5⟩
  have S5 := S4.call hb5
  have h5 := h4.call hb5
  have r5 := (r4.more (show gl + 1 ≤ w4.heap.size by omega)).below hb5
  have hz5 := hb5.size
  have hb5' := below_chain hb5 hb4
  clear S4 h4 r4 hb4 hb5 s0 s1 PK
  go_wp2_with fail
  refine (PN.out g b _ h5).mono ?_
  rintro e w6 ⟨rfl, hb6⟩
  have S6 := S5.call hb6
  have h6 := h5.call hb6
  have r6 := (r5.more hz5).below hb6
  have hb6' := below_chain hb6 hb5'
  have hz6 := hb6.size
  clear S5 h5 r5 hb5' hb6 PN
  have s0 := S6.cell 0
  have s1 := S6.cell 1
  simp only [List.getElem?_toArray, List.getElem?_cons_zero, List.getElem?_cons_succ] at s0 s1
  have hmm := @run_makeMap Try.prog
  have F0 := Fmap.made w6
  have h7 := load_alloc h6 (.map #[] 0)
  have S7 := S6.alloc (.map #[] 0)
  have r7 := (r6.more hz6).alloc (Nat.le_refl _) (.map #[] 0)
  have hb7 := below_alloc hb6' (.map #[] 0)
  go_wp2_with (refine wpList_insert_f rfl _ _ _ (.inl rfl) w6.heap.size 0 (fun _ => 0) 2 4621256167635550208 rfl F0 (by omega) rfl rfl (by decide) ?_; intro w8 hF8 hc8)
  have hF9 : Fmap w8 w6.heap.size (0 + 1) exf := hfe.out ▸ hF8
  have hlt := h6.lt
  have h9 : LoadAt w8 g b exM := ⟨h7.1.chg hc8 (by show ¬ (g = w6.heap.size); omega), h7.2.chg hc8 (by show ¬ (b = w6.heap.size); omega)⟩
  have hz8 := hc8.size
  simp only [World.size_alloc] at hz8
  have r9 : Reads w8 w6.heap.size 6 (some ⟨gl, 0, none⟩) 2 (exl.flatMap Bk.cells) := r7.keep fun p hp => World.cell?_of_block (hc8.block (by simp; omega) (by show ¬ (p.block = w6.heap.size); omega))
  have hb9 := below_chg hb7 hc8 (fun b' hb' e => by have := hb6'.size; omega) hb7.size
  clear h7 r7 S7 hb7 hc8 hF8 F0 h6 r6 S6 s0 s1
  refine (QK.out _ _ g b _ _ _ (r9.more (by omega)) h9 hF9).mono ?_
  rintro e w10 ⟨rfl, hb10⟩
  have hbZ := below_chain hb10 hb9
  clear h9 r9 hF9 hb9 hb10
  go_wp2_with fail
  refine (BU.out _).mono ?_
  rintro e w11 ⟨rfl, rfl⟩
  go_wp2_with fail
  go_ret
  exact ⟨by first | rfl | (rw [heq]; rfl) | (simp [heq]; done), hbZ⟩
end Go.Proofs.Ytnmmjchhinfbpaa
