/- shift: the code's Of. -/
import Derived.Test.YtkpkjpdhlmjchaaShiftR
import Derived.Deep.Cut
namespace Go.Proofs.Ytkpkjpdhlmjchaa
open Go Go.RowKit Go.Deep

def shW (w : World) (sa sb kk ss s1 : Array Value) : World :=
  ((((((w.alloc (.cells sa 36)).alloc (.cells sb 36)).alloc (.cells kk 25)).alloc (.cells (mvArr 0 0 0 0) 31)).alloc (.cells #[.pointer none, .pointer none] 116)).alloc (.cells ss 36)).alloc (.cells s1 36)
structure ShSt (w w' : World) (sb kk tz ss : Array Value) : Prop where
  below : Below w.heap.size w w'
  b : Blk w' (w.heap.size + 1) 36 sb
  k : Blk w' (w.heap.size + 1 + 1) 25 kk
  r : Blk w' (w.heap.size + 1 + 1 + 1) 31 (mvArr 0 0 0 0)
  t : Blk w' (w.heap.size + 1 + 1 + 1 + 1) 116 tz
  s : Blk w' (w.heap.size + 1 + 1 + 1 + 1 + 1) 36 ss
theorem shW_st (w : World) (sa sb kk ss s1 : Array Value) : ShSt w (shW w sa sb kk ss s1) sb kk #[.pointer none, .pointer none] ss := by
  unfold shW
  refine ⟨?_, ?_, ?_, ?_, ?_, ?_⟩
  · exact below_alloc (below_alloc (below_alloc (below_alloc (below_alloc (below_alloc (below_alloc (Below.refl _ _) _) _) _) _) _) _) _
  · have := Blk.new (w.alloc (.cells sa 36)) 36 sb
    simp only [World.size_alloc] at this
    exact (((((this.alloc _).alloc _).alloc _).alloc _).alloc _)
  · have := Blk.new ((w.alloc (.cells sa 36)).alloc (.cells sb 36)) 25 kk
    simp only [World.size_alloc] at this
    exact ((((this.alloc _).alloc _).alloc _).alloc _)
  · have := Blk.new (((w.alloc (.cells sa 36)).alloc (.cells sb 36)).alloc (.cells kk 25)) 31 (mvArr 0 0 0 0)
    simp only [World.size_alloc] at this
    exact (((this.alloc _).alloc _).alloc _)
  · have := Blk.new ((((w.alloc (.cells sa 36)).alloc (.cells sb 36)).alloc (.cells kk 25)).alloc (.cells (mvArr 0 0 0 0) 31)) 116 #[.pointer none, .pointer none]
    simp only [World.size_alloc] at this
    exact ((this.alloc _).alloc _)
  · have := Blk.new (((((w.alloc (.cells sa 36)).alloc (.cells sb 36)).alloc (.cells kk 25)).alloc (.cells (mvArr 0 0 0 0) 31)).alloc (.cells #[.pointer none, .pointer none] 116)) 36 ss
    simp only [World.size_alloc] at this
    exact (this.alloc _)
theorem ShSt.call {w w1 w2 : World} {sb kk tz ss : Array Value} (h : ShSt w w1 sb kk tz ss) (hb : Below w1.heap.size w1 w2) : ShSt w w2 sb kk tz ss :=
  ⟨below_chain hb h.below, h.b.call hb, h.k.call hb, h.r.call hb, h.t.call hb, h.s.call hb⟩
theorem ShSt.tab {w w1 : World} {sb kk ss : Array Value} {t0 t1 : Value} (h : ShSt w w1 sb kk #[t0, t1] ss) (u : Value) :
    ShSt w (w1.setCell ⟨w.heap.size + 1 + 1 + 1 + 1, 0, none⟩ u) sb kk #[u, t1] ss ∧ ShSt w (w1.setCell ⟨w.heap.size + 1 + 1 + 1 + 1, 1, none⟩ u) sb kk #[t0, u] ss := by
  refine ⟨⟨h.below.setCell (by first | (simp; done) | (simp; omega) | omega) _, h.b.far (by first | (simp; done) | (simp; omega) | omega) _, h.k.far (by first | (simp; done) | (simp; omega) | omega) _, h.r.far (by first | (simp; done) | (simp; omega) | omega) _, by simpa using h.t.set_ 0 u, h.s.far (by first | (simp; done) | (simp; omega) | omega) _⟩,
    ⟨h.below.setCell (by first | (simp; done) | (simp; omega) | omega) _, h.b.far (by first | (simp; done) | (simp; omega) | omega) _, h.k.far (by first | (simp; done) | (simp; omega) | omega) _, h.r.far (by first | (simp; done) | (simp; omega) | omega) _, by simpa using h.t.set_ 1 u, h.s.far (by first | (simp; done) | (simp; omega) | omega) _⟩⟩
theorem ShSt.alloc {w w1 : World} {sb kk tz ss : Array Value} (h : ShSt w w1 sb kk tz ss) (o : Obj) : ShSt w (w1.alloc o) sb kk tz ss := h.call (below_alloc (Below.refl _ _) o)

set_option maxRecDepth 100000 in
set_option maxHeartbeats 2000000 in
theorem shiftof_e1 (v1 v2 : Int) (l : List Bk) (A : Option Addr) (c : Nat) (o : List Bk) (B : Option Addr) (d : Nat) (ka kb m : Int) (w : World) (hl : l.length ≤ 1000000) (he : newE m l.length ≠ 0) :
    Calls Try.prog 13 #[.agg #[.int .i64 v1, .slice A l.length c], .agg #[.int .i64 v2, .slice B o.length d], .agg #[.int .u64 ka, .int .u64 kb], .int .i64 m] w fun e w' => e = .returned (.tuple #[.agg (mvArr 0 0 0 0), .int .i64 (newE m l.length)]) ∧ Below w.heap.size w w' := by
  have N1 := fun v W => new_none v l A c ka kb m W hl he
  obtain ⟨er, her⟩ : ∃ er, newE m l.length = er := ⟨_, rfl⟩
  rw [her] at N1 he ⊢
  have heb : (er != 0) = true := by simpa using he
  have H0 := shW_st w #[.int .i64 v1, .slice A l.length c] #[.int .i64 v2, .slice B o.length d] #[.int .u64 ka, .int .u64 kb] #[.int .i64 v1, .slice A l.length c, .int .i64 v2, .slice B o.length d] #[.int .i64 v1, .slice A l.length c]
  have hw0 : shW w #[.int .i64 v1, .slice A l.length c] #[.int .i64 v2, .slice B o.length d] #[.int .u64 ka, .int .u64 kb] #[.int .i64 v1, .slice A l.length c, .int .i64 v2, .slice B o.length d] #[.int .i64 v1, .slice A l.length c] = _ := rfl
  unfold shW at hw0
  replace N1 := Lib.hid N1
  replace he := Lib.hid he
  replace her := Lib.hid her
  replace hw0 := Lib.hid hw0
  replace H0 := Lib.hid H0
  go_enter Try.func13, Try.ntmps13
  go_wp2_with fail
  refine wp_loop_rounds 1 ?_
  rw [rounds_succ]
  go_wp2_with fail
  refine (N1.out _ _).mono ?_
  rintro e w1 ⟨rfl, hb1⟩
  have H1 := H0.out.call hb1
  clear hb1 H0 hw0 N1
  obtain ⟨⟨b0, b1, b2, b3⟩, s0, s1, s2, s3⟩ := H1.r.four
  have hfin := blk_set4 (a0 := .int .i64 0) (a1 := .int .i64 0) (a2 := .int .i64 0) (a3 := .int .i64 0) H1.r
  obtain ⟨⟨f0, f1, f2, f3⟩, -⟩ := hfin.four
  have hb := H1.below
  clear hfin H1
  go_wp2_with fail
  refine bodyPost_ret (v := .tuple #[.agg (mvArr 0 0 0 0), .int .i64 er]) (by simp [results, Try.results13, go_sem, f0, f1, f2, f3]) rfl ?_
  exact ⟨rfl, (((hb.setCell (by simp; omega) _).setCell (by simp; omega) _).setCell (by simp; omega) _).setCell (by simp; omega) _⟩
set_option maxRecDepth 100000 in
set_option maxHeartbeats 4000000 in
theorem shiftof_e2 (v1 v2 : Int) (l : List Bk) (A : Option Addr) (c : Nat) (o : List Bk) (B : Option Addr) (d : Nat) (ka kb : Int) (m : Nat) (w : World) (hr : Reads w w.heap.size 6 A l.length (l.flatMap Bk.cells)) (hm : m = 13 ∨ m = 251) (h0 : 0 < l.length) (hlm : l.length ≤ m)
    (hid : ∀ b ∈ l, 1 ≤ b.id ∧ b.id ≤ 65535) (hol : o.length ≤ 1000000) (he : newE m o.length ≠ 0) :
    Calls Try.prog 13 #[.agg #[.int .i64 v1, .slice A l.length c], .agg #[.int .i64 v2, .slice B o.length d], .agg #[.int .u64 ka, .int .u64 kb], .int .i64 (m : Int)] w fun e w' => e = .returned (.tuple #[.agg (mvArr 0 0 0 0), .int .i64 (newE m o.length)]) ∧ Below w.heap.size w w' := by
  have N1 := fun W (hb : Below w.heap.size w W) => new_some v1 l A c ka kb m W ((hr.below hb).more hb.size) hm h0 hlm hid
  have N2 := fun v W => new_none v o B d ka kb m W hol he
  obtain ⟨er, her⟩ : ∃ er, newE m o.length = er := ⟨_, rfl⟩
  rw [her] at N2 he ⊢
  have heb : (er != 0) = true := by simpa using he
  have H0 := shW_st w #[.int .i64 v1, .slice A l.length c] #[.int .i64 v2, .slice B o.length d] #[.int .u64 ka, .int .u64 kb] #[.int .i64 v1, .slice A l.length c, .int .i64 v2, .slice B o.length d] #[.int .i64 v1, .slice A l.length c]
  replace N1 := Lib.hid N1
  replace N2 := Lib.hid N2
  replace he := Lib.hid he
  replace her := Lib.hid her
  replace H0 := Lib.hid H0
  clear hr hid h0 hlm hol
  go_enter Try.func13, Try.ntmps13
  go_wp2_with fail
  refine wp_loop_rounds 2 ?_
  rw [rounds_succ]
  go_wp2_with fail
  refine (N1.out _ H0.out.below).mono ?_
  rintro e w1 ⟨gt, rfl, -, -, hb1⟩
  have H1 := H0.out.call hb1
  have H2 := (H1.tab (.pointer (some ⟨gt, 0, none⟩))).1
  have t0 := H1.t.cell 0
  have q0 := H1.t.frozen 0
  have k0 := H1.k.cell 0
  have k1 := H1.k.cell 1
  have s2 := H1.s.cell 2
  have s3 := H1.s.cell 3
  simp only [List.getElem?_toArray, List.getElem?_cons_zero, List.getElem?_cons_succ] at t0 k0 k1 s2 s3
  replace H2 := Lib.hid H2
  clear hb1 H0 N1 H1
  go_wp2_with fail
  rw [rounds_succ]
  go_upto_region 5 with (fail)
  have X2 := Blk.new (w1.setCell ⟨w.heap.size + 1 + 1 + 1 + 1, 0, none⟩ (.pointer (some ⟨gt, 0, none⟩))) 36 #[.int .i64 v2, .slice B o.length d]
  simp only [World.size_setCell] at X2
  have H3 := H2.out.alloc (.cells #[.int .i64 v2, .slice B o.length d] 36)
  clear H2 k0 k1 s2 s3 t0 q0
  generalize ((w1.setCell ⟨w.heap.size + 1 + 1 + 1 + 1, 0, none⟩ (.pointer (some ⟨gt, 0, none⟩))).alloc (.cells #[.int .i64 v2, .slice B o.length d] 36)) = w3 at *
  generalize w1.heap.size = gx at *
  have k0 := H3.k.cell 0
  have k1 := H3.k.cell 1
  have s0 := X2.cell 0
  have s1 := X2.cell 1
  simp only [List.getElem?_toArray, List.getElem?_cons_zero, List.getElem?_cons_succ] at k0 k1 s0 s1
  replace H3 := Lib.hid H3
  clear X2
  go_wp2_with fail
  refine (N2.out _ _).mono ?_
  rintro e w2 ⟨rfl, hb2⟩
  replace H3 := H3.out.call hb2
  clear hb2 k0 k1 s0 s1 N2
  obtain ⟨⟨b0, b1, b2, b3⟩, s0, s1, s2, s3⟩ := H3.r.four
  have hfin := blk_set4 (a0 := .int .i64 0) (a1 := .int .i64 0) (a2 := .int .i64 0) (a3 := .int .i64 0) H3.r
  obtain ⟨⟨f0, f1, f2, f3⟩, -⟩ := hfin.four
  have hb := H3.below
  clear hfin H3
  go_wp2_with fail
  refine bodyPost_ret (v := .tuple #[.agg (mvArr 0 0 0 0), .int .i64 er]) (by simp [results, Try.results13, go_sem, f0, f1, f2, f3]) rfl ?_
  exact ⟨rfl, (((hb.setCell (by simp; omega) _).setCell (by simp; omega) _).setCell (by simp; omega) _).setCell (by simp; omega) _⟩
end Go.Proofs.Ytkpkjpdhlmjchaa
