/- tables: the law's helpers, and the document's Right and Small. -/
import Derived.Test.YtohapcacckapoaaGreatJ45
import Derived.Test.YtohapcacckapoaaGreatJ37
import Derived.Test.YtohapcacckapoaaGreatJ25
import Derived.Test.YtohapcacckapoaaGreatJ3
namespace Go.Proofs.YtohapcacckapoaaGreat
open Go Go.RowKit Go.Deep Go.Maps Go.ChangeMaps Go.ChangeShapes Go.WideShapes
set_option maxRecDepth 100000 in
set_option maxHeartbeats 8000000 in
theorem ref20_right (r : TRule) (w : World) : Calls Tryz.prog 40 #[r.val] w fun e w' => e = .returned (.bool (ruleOk r)) ∧ Below w.heap.size w w' := by
 have CR := Lib.hid fun W => refck_right r.wd r.sl r.gn W
 have RT := Lib.hid fun W => refright_any r.a r.b r.c r.d W
 have WG := Lib.hid fun (h : 1 ≤ r.G ∧ r.G ≤ 1024) W => refwheel_new r.G W h
 have WB := Lib.hid fun (h : r.G < 1 ∨ 1024 < r.G) W => refwheel_new_bad r.G W h
 obtain ⟨x, hx⟩ : ∃ x, ruleOk r = x := ⟨_, rfl⟩
 rw [hx]
 unfold ruleOk at hx
 obtain ⟨lo, hlo⟩ : ∃ x, layOk r.wd r.sl r.gn = x := ⟨_, rfl⟩
 obtain ⟨ro, hro⟩ : ∃ x, rightS r.a r.b r.c r.d = x := ⟨_, rfl⟩
 rw [hlo] at CR hx
 rw [hro] at RT hx
 have R0 := Blk.new w 95 r.cells.toArray
 have hb0 : Below w.heap.size w (w.alloc (.cells r.cells.toArray 95)) := below_alloc (Below.refl _ _) _
 obtain ⟨wd, sl, gn, ka, kb, np, a, b, c, d, G⟩ := r
 dsimp only at *
 clear hlo hro
 replace hx := Lib.hid hx
 go_enter Tryz.func40, Tryz.ntmps40
 go_upto_region 1 with fail
 change Code.wp _ _ _ _ (w.alloc (.cells (TRule.cells ⟨wd, sl, gn, ka, kb, np, a, b, c, d, G⟩).toArray 95))
 generalize w.alloc (.cells (TRule.cells ⟨wd, sl, gn, ka, kb, np, a, b, c, d, G⟩).toArray 95) = w0 at *
 obtain ⟨rb, hrb⟩ : ∃ r, w.heap.size = r := ⟨_, rfl⟩
 rw [hrb] at R0
 try rw [hrb]
 have RC := Lib.hid fun W (h : Below w0.heap.size w0 W) => RuleAt.of (R0.call h)
 obtain ⟨c0, c1, c2, c3, c4, c5, c6, c7, c8, c9, c10⟩ := RC.out w0 (Below.refl _ _)
 clear R0
 dsimp only at *
 cases lo
 ·
  obtain rfl : false = x := by simpa using hx.out
  go_wp2_with (go_at_call 71; (with_reducible refine (CR.out _).mono ?_); rintro e w1 ⟨rfl, hb1⟩)
  go_ret
  exact ⟨rfl, (by repeat (first | exact Below.refl _ _ | assumption | refine below_alloc ?_ _ | refine below_chain (by assumption) ?_ | refine below_call2 (by assumption) ?_ (by first | omega | (simp; done) | (simp; omega) | (simp [World.setCell]; omega)) | refine below_drewN ?_ _ | refine Below.drew ?_ | refine Below.alloc ?_ (by first | omega | (simp; done) | (simp; omega) | (simp [World.setCell]; omega)) _ | refine Below.setCell ?_ (by first | omega | (simp; done) | (simp; omega) | (simp [World.setCell]; omega)) _))⟩
 ·
  by_cases n1 : 1 ≤ np
  ·
   have y1 : decide (1 ≤ np) = true := by simpa using n1
   by_cases n2 : np ≤ 16
   ·
    have y2 : decide (np ≤ 16) = true := by simpa using n2
    cases ro
    ·
     obtain rfl : false = x := by simpa using hx.out
     go_wp2_with (first
      | (go_at_call 71; (with_reducible refine (CR.out _).mono ?_); rintro e w1 ⟨rfl, hb1⟩; clear c0 c1 c2 c3 c4 c5 c6 c7 c8 c9 c10; obtain ⟨c0, c1, c2, c3, c4, c5, c6, c7, c8, c9, c10⟩ := RC.out _ hb1)
      | (go_at_call 72; (with_reducible refine (RT.out _).mono ?_); rintro e w2 ⟨rfl, hb2⟩))
     go_ret
     exact ⟨rfl, (by repeat (first | exact Below.refl _ _ | assumption | refine below_alloc ?_ _ | refine below_chain (by assumption) ?_ | refine below_call2 (by assumption) ?_ (by first | omega | (simp; done) | (simp; omega) | (simp [World.setCell]; omega)) | refine below_drewN ?_ _ | refine Below.drew ?_ | refine Below.alloc ?_ (by first | omega | (simp; done) | (simp; omega) | (simp [World.setCell]; omega)) _ | refine Below.setCell ?_ (by first | omega | (simp; done) | (simp; omega) | (simp [World.setCell]; omega)) _))⟩
    ·
     by_cases hG : 1 ≤ G ∧ G ≤ 1024
     ·
      obtain rfl : true = x := by
       have := hx.out
       simp at this
       rw [← this]
       simp
       omega
      have WN := Lib.hid (WG.out hG)
      clear WG WB
      go_wp2_with (first
       | (go_at_call 71; (with_reducible refine (CR.out _).mono ?_); rintro e w1 ⟨rfl, hb1⟩; clear c0 c1 c2 c3 c4 c5 c6 c7 c8 c9 c10; obtain ⟨c0, c1, c2, c3, c4, c5, c6, c7, c8, c9, c10⟩ := RC.out _ hb1)
       | (go_at_call 72; (with_reducible refine (RT.out _).mono ?_); rintro e w2 ⟨rfl, hb2⟩; clear c0 c1 c2 c3 c4 c5 c6 c7 c8 c9 c10; obtain ⟨c0, c1, c2, c3, c4, c5, c6, c7, c8, c9, c10⟩ := RC.out _ (below_chain hb2 hb1))
       | (go_at_call 73; (with_reducible refine (WN.out _).mono ?_); rintro e w3 ⟨rfl, -, hb3⟩))
      go_ret
      exact ⟨rfl, (by repeat (first | exact Below.refl _ _ | assumption | refine below_alloc ?_ _ | refine below_chain (by assumption) ?_ | refine below_call2 (by assumption) ?_ (by first | omega | (simp; done) | (simp; omega) | (simp [World.setCell]; omega)) | refine below_drewN ?_ _ | refine Below.drew ?_ | refine Below.alloc ?_ (by first | omega | (simp; done) | (simp; omega) | (simp [World.setCell]; omega)) _ | refine Below.setCell ?_ (by first | omega | (simp; done) | (simp; omega) | (simp [World.setCell]; omega)) _))⟩
     ·
      obtain rfl : false = x := by
       have := hx.out
       simp at this
       rw [← this]
       simp
       omega
      have WN := Lib.hid (WB.out (by omega))
      clear WG WB
      go_wp2_with (first
       | (go_at_call 71; (with_reducible refine (CR.out _).mono ?_); rintro e w1 ⟨rfl, hb1⟩; clear c0 c1 c2 c3 c4 c5 c6 c7 c8 c9 c10; obtain ⟨c0, c1, c2, c3, c4, c5, c6, c7, c8, c9, c10⟩ := RC.out _ hb1)
       | (go_at_call 72; (with_reducible refine (RT.out _).mono ?_); rintro e w2 ⟨rfl, hb2⟩; clear c0 c1 c2 c3 c4 c5 c6 c7 c8 c9 c10; obtain ⟨c0, c1, c2, c3, c4, c5, c6, c7, c8, c9, c10⟩ := RC.out _ (below_chain hb2 hb1))
       | (go_at_call 73; (with_reducible refine (WN.out _).mono ?_); rintro e w3 ⟨rfl, rfl⟩))
      go_ret
      exact ⟨rfl, (by repeat (first | exact Below.refl _ _ | assumption | refine below_alloc ?_ _ | refine below_chain (by assumption) ?_ | refine below_call2 (by assumption) ?_ (by first | omega | (simp; done) | (simp; omega) | (simp [World.setCell]; omega)) | refine below_drewN ?_ _ | refine Below.drew ?_ | refine Below.alloc ?_ (by first | omega | (simp; done) | (simp; omega) | (simp [World.setCell]; omega)) _ | refine Below.setCell ?_ (by first | omega | (simp; done) | (simp; omega) | (simp [World.setCell]; omega)) _))⟩
   ·
    have y2 : decide (np ≤ 16) = false := by simpa using n2
    obtain rfl : false = x := by
     have := hx.out
     simp at this
     rw [← this]
     simp
     omega
    go_wp2_with (go_at_call 71; (with_reducible refine (CR.out _).mono ?_); rintro e w1 ⟨rfl, hb1⟩; clear c0 c1 c2 c3 c4 c5 c6 c7 c8 c9 c10; obtain ⟨c0, c1, c2, c3, c4, c5, c6, c7, c8, c9, c10⟩ := RC.out _ hb1)
    go_ret
    exact ⟨rfl, (by repeat (first | exact Below.refl _ _ | assumption | refine below_alloc ?_ _ | refine below_chain (by assumption) ?_ | refine below_call2 (by assumption) ?_ (by first | omega | (simp; done) | (simp; omega) | (simp [World.setCell]; omega)) | refine below_drewN ?_ _ | refine Below.drew ?_ | refine Below.alloc ?_ (by first | omega | (simp; done) | (simp; omega) | (simp [World.setCell]; omega)) _ | refine Below.setCell ?_ (by first | omega | (simp; done) | (simp; omega) | (simp [World.setCell]; omega)) _))⟩
  ·
   have y1 : decide (1 ≤ np) = false := by simpa using n1
   obtain rfl : false = x := by
    have := hx.out
    simp at this
    rw [← this]
    simp
    omega
   go_wp2_with (go_at_call 71; (with_reducible refine (CR.out _).mono ?_); rintro e w1 ⟨rfl, hb1⟩; clear c0 c1 c2 c3 c4 c5 c6 c7 c8 c9 c10; obtain ⟨c0, c1, c2, c3, c4, c5, c6, c7, c8, c9, c10⟩ := RC.out _ hb1)
   go_ret
   exact ⟨rfl, (by repeat (first | exact Below.refl _ _ | assumption | refine below_alloc ?_ _ | refine below_chain (by assumption) ?_ | refine below_call2 (by assumption) ?_ (by first | omega | (simp; done) | (simp; omega) | (simp [World.setCell]; omega)) | refine below_drewN ?_ _ | refine Below.drew ?_ | refine Below.alloc ?_ (by first | omega | (simp; done) | (simp; omega) | (simp [World.setCell]; omega)) _ | refine Below.setCell ?_ (by first | omega | (simp; done) | (simp; omega) | (simp [World.setCell]; omega)) _))⟩
def small20 (r : TRule) : Bool := decide (r.sl ≤ 3) && decide (r.np ≤ 4)
structure T20 where
 kd : Int
 tu : Tup
 n : Int
 bk : Int
 ck : Int
 pk : Int
abbrev T20.cells (x : T20) : List Value := [.int .i64 x.kd, .int .i64 x.tu.p, .bool x.tu.v, .int .u64 x.tu.hi, .int .u64 x.tu.lo, .bool x.tu.v', .int .u64 x.tu.hi', .int .u64 x.tu.lo', .int .i64 x.tu.sp, .int .i64 x.tu.dp, .int .i64 x.n, .int .i64 x.bk, .int .u64 x.ck, .int .i64 x.pk]
abbrev T20.val (x : T20) : Value := .agg x.cells.toArray
def t20Wf (x : T20) : Prop := (0 ≤ x.ck ∧ x.ck < 18446744073709551616) ∧ tupWf x.tu
abbrev OwnU (w : World) (base : Nat) (A : Option Addr) (c : Nat) (l : List Int) : Prop := OwnA (fun x => [.int .u64 x]) 1 22 w base A c l
@[reducible] def IsAt (ad : Addr) (rs : Nat) (x : Slt) (t : Tup) (W : World) : Prop := W.cell? ad = some (.int .i64 x.t.p) ∧ W.cell? ⟨ad.block, ad.off + 1, none⟩ = some (.bool x.t.v) ∧ W.cell? ⟨ad.block, ad.off + 2, none⟩ = some (.int .u64 x.t.hi) ∧ W.cell? ⟨ad.block, ad.off + 3, none⟩ = some (.int .u64 x.t.lo) ∧ W.cell? ⟨ad.block, ad.off + 4, none⟩ = some (.bool x.t.v') ∧ W.cell? ⟨ad.block, ad.off + 5, none⟩ = some (.int .u64 x.t.hi') ∧ W.cell? ⟨ad.block, ad.off + 6, none⟩ = some (.int .u64 x.t.lo') ∧ W.cell? ⟨ad.block, ad.off + 7, none⟩ = some (.int .i64 x.t.sp) ∧ W.cell? ⟨ad.block, ad.off + 8, none⟩ = some (.int .i64 x.t.dp) ∧ W.cell? ⟨ad.block, ad.off + 9, none⟩ = some (.int .i64 x.bk) ∧ W.cell? ⟨ad.block, ad.off + 10, none⟩ = some (.int .i64 x.st) ∧ W.cell? ⟨ad.block, ad.off + 11, none⟩ = some (.int .i64 x.sl) ∧ W.cell? ⟨ad.block, ad.off + 12, none⟩ = some (.int .u64 x.gen) ∧ W.cell? ⟨ad.block, ad.off + 13, none⟩ = some (.int .i64 x.due) ∧
 W.cell? ⟨rs, 1, none⟩ = some (.int .i64 t.p) ∧ W.cell? ⟨rs, 2, none⟩ = some (.bool t.v) ∧ W.cell? ⟨rs, 3, none⟩ = some (.int .u64 t.hi) ∧ W.cell? ⟨rs, 4, none⟩ = some (.int .u64 t.lo) ∧ W.cell? ⟨rs, 5, none⟩ = some (.bool t.v') ∧ W.cell? ⟨rs, 6, none⟩ = some (.int .u64 t.hi') ∧ W.cell? ⟨rs, 7, none⟩ = some (.int .u64 t.lo') ∧ W.cell? ⟨rs, 8, none⟩ = some (.int .i64 t.sp) ∧ W.cell? ⟨rs, 9, none⟩ = some (.int .i64 t.dp)
theorem IsAt.call {ad : Addr} {rs : Nat} {x : Slt} {t : Tup} {W W' : World} (h : IsAt ad rs x t W) (hb : Below W.heap.size W W') : IsAt ad rs x t W' := by
 have k : ∀ {a : Addr} {v : Value}, W.cell? a = some v → W'.cell? a = some v := fun e => (hb.cell (block_lt_of_cell e)).trans e
 obtain ⟨h0, h1, h2, h3, h4, h5, h6, h7, h8, h9, h10, h11, h12, h13, h14, h15, h16, h17, h18, h19, h20, h21, h22⟩ := h
 exact ⟨k h0, k h1, k h2, k h3, k h4, k h5, k h6, k h7, k h8, k h9, k h10, k h11, k h12, k h13, k h14, k h15, k h16, k h17, k h18, k h19, k h20, k h21, k h22⟩
end Go.Proofs.YtohapcacckapoaaGreat
