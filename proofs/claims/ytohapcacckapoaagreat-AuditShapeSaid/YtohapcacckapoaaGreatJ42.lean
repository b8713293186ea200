/- tables: Open. tables: Find. tables: Touch. tables: Right and New. -/
import Derived.Test.YtohapcacckapoaaGreatJ40
import Derived.Deep.CutRange
import Derived.Maps.RangeWalk
import Derived.Test.YtohapcacckapoaaGreatJ36
import Derived.Test.YtohapcacckapoaaGreatJ4
namespace Go.Proofs.YtohapcacckapoaaGreat
open Go Go.RowKit Go.Deep Go.Maps Go.ChangeMaps
theorem tabP_rng {w : World} {g sb n : Nat} {c : TCfg} {s : TSt} {X : Nat → Prop} (h : TabP w g sb n c s X) : n ≤ 4096 := h.rng.2.2
def openCk (r : TRule) (s : TSt) (t : Tup) (bk fl : Int) : Int := if openE s t bk fl = 0 then makeI r.wd r.sl r.gn r.ka r.kb (openV r.cfg s t bk fl).t (openV r.cfg s t bk fl).sl (openV r.cfg s t bk fl).gen else 0
@[reducible] def TupAt (rt : Nat) (t : Tup) (W : World) : Prop := W.cell? ⟨rt, 0, none⟩ = some (.int .i64 t.p) ∧ W.cell? ⟨rt, 1, none⟩ = some (.bool t.v) ∧ W.cell? ⟨rt, 2, none⟩ = some (.int .u64 t.hi) ∧ W.cell? ⟨rt, 3, none⟩ = some (.int .u64 t.lo) ∧ W.cell? ⟨rt, 4, none⟩ = some (.bool t.v') ∧ W.cell? ⟨rt, 5, none⟩ = some (.int .u64 t.hi') ∧ W.cell? ⟨rt, 6, none⟩ = some (.int .u64 t.lo') ∧ W.cell? ⟨rt, 7, none⟩ = some (.int .i64 t.sp) ∧ W.cell? ⟨rt, 8, none⟩ = some (.int .i64 t.dp)
theorem TupAt.chg {rt : Nat} {t : Tup} {W W' : World} {F : Nat → Prop} (h : TupAt rt t W) (hc : Chg F W W') (hF : ¬ F rt) : TupAt rt t W' := by
 obtain ⟨h0, h1, h2, h3, h4, h5, h6, h7, h8⟩ := h
 exact ⟨(cell_chg hc (block_lt_of_cell h0) hF).trans h0, (cell_chg hc (block_lt_of_cell h1) hF).trans h1, (cell_chg hc (block_lt_of_cell h2) hF).trans h2, (cell_chg hc (block_lt_of_cell h3) hF).trans h3, (cell_chg hc (block_lt_of_cell h4) hF).trans h4, (cell_chg hc (block_lt_of_cell h5) hF).trans h5, (cell_chg hc (block_lt_of_cell h6) hF).trans h6, (cell_chg hc (block_lt_of_cell h7) hF).trans h7, (cell_chg hc (block_lt_of_cell h8) hF).trans h8⟩
theorem TupAt.call {rt : Nat} {t : Tup} {W W' : World} (h : TupAt rt t W) (hb : Below W.heap.size W W') : TupAt rt t W' := h.chg (F := fun _ => False) (Chg.of_below hb) (fun h => h)
theorem TupAt.of {rt : Nat} {t : Tup} {W : World} (h : Blk W rt 99 t.cells.toArray) : TupAt rt t W := ⟨h.cell 0, h.cell 1, h.cell 2, h.cell 3, h.cell 4, h.cell 5, h.cell 6, h.cell 7, h.cell 8⟩
section
variable {w w' : World} {g p n : Nat} {r : TRule} {S : Nat → TSt} {X F : Nat → Prop}
end
def findOkC (r : TRule) (n : Nat) (s : TSt) (t : Tup) (k : Int) : Bool := openOkC r.wd r.sl r.gn r.ka r.kb t k && findOk n s t (openSl r.wd r.sl r.gn r.ka r.kb t k) (openGn r.wd r.sl r.gn r.ka r.kb t k) r.gn
def findVC (r : TRule) (n : Nat) (s : TSt) (t : Tup) (k : Int) : Slt := if openOkC r.wd r.sl r.gn r.ka r.kb t k then findV n s t (openSl r.wd r.sl r.gn r.ka r.kb t k) (openGn r.wd r.sl r.gn r.ka r.kb t k) r.gn else slt0
def findSC (r : TRule) (n : Nat) (s : TSt) (t : Tup) (k : Int) : TSt := if openOkC r.wd r.sl r.gn r.ka r.kb t k then lookS n (openSl r.wd r.sl r.gn r.ka r.kb t k) s else s
@[reducible] def FindAt (g rt : Nat) (gn : Int) (t : Tup) (W : World) : Prop := W.cell? ⟨g, 2, none⟩ = some (.int .i64 gn) ∧ W.cell? ⟨rt, 0, none⟩ = some (.int .i64 t.p) ∧ W.cell? ⟨rt, 1, none⟩ = some (.bool t.v) ∧ W.cell? ⟨rt, 2, none⟩ = some (.int .u64 t.hi) ∧ W.cell? ⟨rt, 3, none⟩ = some (.int .u64 t.lo) ∧ W.cell? ⟨rt, 4, none⟩ = some (.bool t.v') ∧ W.cell? ⟨rt, 5, none⟩ = some (.int .u64 t.hi') ∧ W.cell? ⟨rt, 6, none⟩ = some (.int .u64 t.lo') ∧ W.cell? ⟨rt, 7, none⟩ = some (.int .i64 t.sp) ∧ W.cell? ⟨rt, 8, none⟩ = some (.int .i64 t.dp)
theorem FindAt.chg {g rt : Nat} {gn : Int} {t : Tup} {W W' : World} {F : Nat → Prop} (h : FindAt g rt gn t W) (hc : Chg F W W') (hg : ¬ F g) (hF : ¬ F rt) : FindAt g rt gn t W' :=
 ⟨(cell_chg hc (block_lt_of_cell h.1) hg).trans h.1, TupAt.chg h.2 hc hF⟩
theorem FindAt.call {g rt : Nat} {gn : Int} {t : Tup} {W W' : World} (h : FindAt g rt gn t W) (hb : Below W.heap.size W W') : FindAt g rt gn t W' := h.chg (F := fun _ => False) (Chg.of_below hb) (fun h => h) (fun h => h)
section
variable {w w' : World} {g p n : Nat} {r : TRule} {S : Nat → TSt} {X F : Nat → Prop}
end
def touchOkC (r : TRule) (n : Nat) (s : TSt) (t : Tup) (k : Int) : Bool := findOkC r n s t k && closeOk n (findSC r n s t k) (findVC r n s t k).sl
def touchVC (r : TRule) (n : Nat) (s : TSt) (t : Tup) (k fl : Int) : Slt := if findOkC r n s t k then touchV r.cfg n (findSC r n s t k) (findVC r n s t k).sl fl else slt0
def touchSC (r : TRule) (n : Nat) (s : TSt) (t : Tup) (k fl : Int) : TSt := if findOkC r n s t k then touchS r.cfg n (findSC r n s t k) (findVC r n s t k).sl fl else findSC r n s t k
@[reducible] def TouchAt (rq rt : Nat) (es : Int) (t : Tup) (W : World) : Prop := W.cell? ⟨rq, 11, none⟩ = some (.int .i64 es) ∧ W.cell? ⟨rt, 0, none⟩ = some (.int .i64 t.p) ∧ W.cell? ⟨rt, 1, none⟩ = some (.bool t.v) ∧ W.cell? ⟨rt, 2, none⟩ = some (.int .u64 t.hi) ∧ W.cell? ⟨rt, 3, none⟩ = some (.int .u64 t.lo) ∧ W.cell? ⟨rt, 4, none⟩ = some (.bool t.v') ∧ W.cell? ⟨rt, 5, none⟩ = some (.int .u64 t.hi') ∧ W.cell? ⟨rt, 6, none⟩ = some (.int .u64 t.lo') ∧ W.cell? ⟨rt, 7, none⟩ = some (.int .i64 t.sp) ∧ W.cell? ⟨rt, 8, none⟩ = some (.int .i64 t.dp)
theorem TouchAt.chg {rq rt : Nat} {es : Int} {t : Tup} {W W' : World} {F : Nat → Prop} (h : TouchAt rq rt es t W) (hc : Chg F W W') (hg : ¬ F rq) (hF : ¬ F rt) : TouchAt rq rt es t W' :=
 ⟨(cell_chg hc (block_lt_of_cell h.1) hg).trans h.1, TupAt.chg h.2 hc hF⟩
theorem TouchAt.call {rq rt : Nat} {es : Int} {t : Tup} {W W' : World} (h : TouchAt rq rt es t W) (hb : Below W.heap.size W W') : TouchAt rq rt es t W' := h.chg (F := fun _ => False) (Chg.of_below hb) (fun h => h) (fun h => h)
section
variable {w w' : World} {g p n : Nat} {r : TRule} {S : Nat → TSt} {X F : Nat → Prop}
end
theorem info_ptab : (Tryz.prog.info? 194).map (fun i => (i.zero, i.size, i.bytes)) = some (some (.pointer none), 1, 8) := by kernel_rfl
abbrev ptcell (g : Nat) : List Value := [.pointer (some ⟨g, 0, none⟩)]
abbrev OwnT (w : World) (base : Nat) (A : Option Addr) (c : Nat) (l : List Nat) : Prop := OwnA ptcell 1 194 w base A c l
theorem wpList_push_ptab {W : World} {cs : Array Value} {ops : Array Oper} {rest : List Oper} {o : Oper} {a : Act} {Q : Exit → Act → World → Prop} (hgd : o.guard = none) (s x : Operand)
  (ho : o.op = .call { callee := .builtin .append, args := #[s, x], argTypes := #[191, 191] })
  (base : Nat) (A : Option Addr) (c : Nat) (l : List Nat) (v : Nat) (n : Nat) (hn : l.length = n) (hs : a.eval s = .slice A n c) (hown : OwnT W base A c l) (g : Nat) (hg : g = W.heap.size) (hcs : (ptcell v).toArray = cs)
  (hx : a.eval x = .slice (some ⟨g, 0, none⟩) 1 1) (hl : l.length ≤ 1000000) (hbase : base ≤ W.heap.size)
  (h : ∀ A' c' w', OwnT w' base A' c' (l ++ [v]) → Pushed W w' A A' → wpList Tryz.prog ops Q rest (a.put o.dst (.slice A' (n + 1) c')) w') : wpList Tryz.prog ops Q (o :: rest) a (W.alloc (.cells cs 194)) := by
 obtain ⟨i0, hi0, hz0, hz1, hz2⟩ := info_parts info_ptab
 exact wpList_push ptcell 1 (fun _ => rfl) (fun b u hu => by
  simp at hu; subst hu; rfl) (by omega) 191 i0 _ 8 Tryz.underlying191 hi0 hz0 hz1 hz2 rfl (by omega) hgd s x ho base A c l v n hn hs hown g hg hcs hx hl hbase h
theorem OwnA.some_of {α : Type} {cells : α → List Value} {m : Nat} {e : TypeId} {w : World} {base : Nat} {A : Option Addr} {c : Nat} {l : List α} (h : OwnA cells m e w base A c l) (hl : 0 < l.length) : ∃ g, A = some ⟨g, 0, none⟩ := by
 obtain ⟨g, cap, hv, -, -⟩ := (show w.ownsRow base e m (.slice A l.length c) l.length (l.flatMap cells) from h).form hl
 simp only [Value.slice.injEq] at hv
 exact ⟨g, hv.1⟩
@[reducible] def RuleAt (rb : Nat) (r : TRule) (W : World) : Prop := W.cell? ⟨rb, 0, none⟩ = some (.bool r.wd) ∧ W.cell? ⟨rb, 1, none⟩ = some (.int .i64 r.sl) ∧ W.cell? ⟨rb, 2, none⟩ = some (.int .i64 r.gn) ∧ W.cell? ⟨rb, 3, none⟩ = some (.int .u64 r.ka) ∧ W.cell? ⟨rb, 4, none⟩ = some (.int .u64 r.kb) ∧ W.cell? ⟨rb, 5, none⟩ = some (.int .i64 r.np) ∧ W.cell? ⟨rb, 6, none⟩ = some (.int .i64 r.a) ∧ W.cell? ⟨rb, 7, none⟩ = some (.int .i64 r.b) ∧ W.cell? ⟨rb, 8, none⟩ = some (.int .i64 r.c) ∧ W.cell? ⟨rb, 9, none⟩ = some (.int .i64 r.d) ∧ W.cell? ⟨rb, 10, none⟩ = some (.int .i64 r.G)
theorem RuleAt.of {rb : Nat} {r : TRule} {W : World} {t : TypeId} (h : Blk W rb t r.cells.toArray) : RuleAt rb r W := ⟨h.cell 0, h.cell 1, h.cell 2, h.cell 3, h.cell 4, h.cell 5, h.cell 6, h.cell 7, h.cell 8, h.cell 9, h.cell 10⟩
set_option maxRecDepth 100000 in
set_option maxHeartbeats 8000000 in
theorem tabs_right (r : TRule) (w : World) : Calls Tryz.prog 75 #[r.val] w fun e w' => e = .returned (.bool (ruleOk r)) ∧ Below w.heap.size w w' := by
 have CR := Lib.hid fun W => ck_right r.wd r.sl r.gn W
 have RT := Lib.hid fun W => right_any r.a r.b r.c r.d W
 have WG := Lib.hid fun (h : 1 ≤ r.G ∧ r.G ≤ 1024) W => wheelp_new r.G W h
 have WB := Lib.hid fun (h : r.G < 1 ∨ 1024 < r.G) W => wheel_new_bad r.G W h
 obtain ⟨x, hx⟩ : ∃ x, ruleOk r = x := ⟨_, rfl⟩
 rw [hx]
 unfold ruleOk at hx
 obtain ⟨lo, hlo⟩ : ∃ x, layOk r.wd r.sl r.gn = x := ⟨_, rfl⟩
 obtain ⟨ro, hro⟩ : ∃ x, rightS r.a r.b r.c r.d = x := ⟨_, rfl⟩
 rw [hlo] at CR hx
 rw [hro] at RT hx
 have R0 := Blk.new w 142 r.cells.toArray
 have hb0 : Below w.heap.size w (w.alloc (.cells r.cells.toArray 142)) := below_alloc (Below.refl _ _) _
 obtain ⟨wd, sl, gn, ka, kb, np, a, b, c, d, G⟩ := r
 dsimp only at *
 clear hlo hro
 replace hx := Lib.hid hx
 go_enter Tryz.func75, Tryz.ntmps75
 go_upto_region 1 with fail
 change Code.wp _ _ _ _ (w.alloc (.cells (TRule.cells ⟨wd, sl, gn, ka, kb, np, a, b, c, d, G⟩).toArray 142))
 generalize w.alloc (.cells (TRule.cells ⟨wd, sl, gn, ka, kb, np, a, b, c, d, G⟩).toArray 142) = w0 at *
 obtain ⟨rb, hrb⟩ : ∃ r, w.heap.size = r := ⟨_, rfl⟩
 rw [hrb] at R0
 try rw [hrb]
 have RC := Lib.hid fun W (h : Below w0.heap.size w0 W) => RuleAt.of (R0.call h)
 obtain ⟨c0, c1, c2, c3, c4, c5, c6, c7, c8, c9, c10⟩ := RC.out w0 (Below.refl _ _)
 clear R0
 dsimp only at *
 cases lo
 ·
  obtain rfl : false = x := by simpa using hx.out
  go_wp2_with (go_at_call 97; (with_reducible refine (CR.out _).mono ?_); rintro e w1 ⟨rfl, hb1⟩)
  go_ret
  exact ⟨rfl, (by repeat (first | exact Below.refl _ _ | assumption | refine below_alloc ?_ _ | refine below_chain (by assumption) ?_ | refine below_call2 (by assumption) ?_ (by first | omega | (simp; done) | (simp; omega) | (simp [World.setCell]; omega)) | refine below_drewN ?_ _ | refine Below.drew ?_ | refine Below.alloc ?_ (by first | omega | (simp; done) | (simp; omega) | (simp [World.setCell]; omega)) _ | refine Below.setCell ?_ (by first | omega | (simp; done) | (simp; omega) | (simp [World.setCell]; omega)) _))⟩
 ·
  by_cases n1 : 1 ≤ np
  ·
   have y1 : decide (1 ≤ np) = true := by simpa using n1
   by_cases n2 : np ≤ 16
   ·
    have y2 : decide (np ≤ 16) = true := by simpa using n2
    cases ro
    ·
     obtain rfl : false = x := by simpa using hx.out
     go_wp2_with (first
      | (go_at_call 97; (with_reducible refine (CR.out _).mono ?_); rintro e w1 ⟨rfl, hb1⟩; clear c0 c1 c2 c3 c4 c5 c6 c7 c8 c9 c10; obtain ⟨c0, c1, c2, c3, c4, c5, c6, c7, c8, c9, c10⟩ := RC.out _ hb1)
      | (go_at_call 98; (with_reducible refine (RT.out _).mono ?_); rintro e w2 ⟨rfl, hb2⟩))
     go_ret
     exact ⟨rfl, (by repeat (first | exact Below.refl _ _ | assumption | refine below_alloc ?_ _ | refine below_chain (by assumption) ?_ | refine below_call2 (by assumption) ?_ (by first | omega | (simp; done) | (simp; omega) | (simp [World.setCell]; omega)) | refine below_drewN ?_ _ | refine Below.drew ?_ | refine Below.alloc ?_ (by first | omega | (simp; done) | (simp; omega) | (simp [World.setCell]; omega)) _ | refine Below.setCell ?_ (by first | omega | (simp; done) | (simp; omega) | (simp [World.setCell]; omega)) _))⟩
    ·
     by_cases hG : 1 ≤ G ∧ G ≤ 1024
     ·
      obtain rfl : true = x := by
       have := hx.out
       simp at this
       rw [← this]
       simp
       omega
      have WN := Lib.hid (WG.out hG)
      clear WG WB
      go_wp2_with (first
       | (go_at_call 97; (with_reducible refine (CR.out _).mono ?_); rintro e w1 ⟨rfl, hb1⟩; clear c0 c1 c2 c3 c4 c5 c6 c7 c8 c9 c10; obtain ⟨c0, c1, c2, c3, c4, c5, c6, c7, c8, c9, c10⟩ := RC.out _ hb1)
       | (go_at_call 98; (with_reducible refine (RT.out _).mono ?_); rintro e w2 ⟨rfl, hb2⟩; clear c0 c1 c2 c3 c4 c5 c6 c7 c8 c9 c10; obtain ⟨c0, c1, c2, c3, c4, c5, c6, c7, c8, c9, c10⟩ := RC.out _ (below_chain hb2 hb1))
       | (go_at_call 99; (with_reducible refine (WN.out _).mono ?_); rintro e w3 ⟨wg, Y, rfl, -, hb3, -⟩))
      go_ret
      exact ⟨rfl, (by repeat (first | exact Below.refl _ _ | assumption | refine below_alloc ?_ _ | refine below_chain (by assumption) ?_ | refine below_call2 (by assumption) ?_ (by first | omega | (simp; done) | (simp; omega) | (simp [World.setCell]; omega)) | refine below_drewN ?_ _ | refine Below.drew ?_ | refine Below.alloc ?_ (by first | omega | (simp; done) | (simp; omega) | (simp [World.setCell]; omega)) _ | refine Below.setCell ?_ (by first | omega | (simp; done) | (simp; omega) | (simp [World.setCell]; omega)) _))⟩
     ·
      obtain rfl : false = x := by
       have := hx.out
       simp at this
       rw [← this]
       simp
       omega
      have WN := Lib.hid (WB.out (by omega))
      clear WG WB
      go_wp2_with (first
       | (go_at_call 97; (with_reducible refine (CR.out _).mono ?_); rintro e w1 ⟨rfl, hb1⟩; clear c0 c1 c2 c3 c4 c5 c6 c7 c8 c9 c10; obtain ⟨c0, c1, c2, c3, c4, c5, c6, c7, c8, c9, c10⟩ := RC.out _ hb1)
       | (go_at_call 98; (with_reducible refine (RT.out _).mono ?_); rintro e w2 ⟨rfl, hb2⟩; clear c0 c1 c2 c3 c4 c5 c6 c7 c8 c9 c10; obtain ⟨c0, c1, c2, c3, c4, c5, c6, c7, c8, c9, c10⟩ := RC.out _ (below_chain hb2 hb1))
       | (go_at_call 99; (with_reducible refine (WN.out _).mono ?_); rintro e w3 ⟨rfl, rfl⟩))
      go_ret
      exact ⟨rfl, (by repeat (first | exact Below.refl _ _ | assumption | refine below_alloc ?_ _ | refine below_chain (by assumption) ?_ | refine below_call2 (by assumption) ?_ (by first | omega | (simp; done) | (simp; omega) | (simp [World.setCell]; omega)) | refine below_drewN ?_ _ | refine Below.drew ?_ | refine Below.alloc ?_ (by first | omega | (simp; done) | (simp; omega) | (simp [World.setCell]; omega)) _ | refine Below.setCell ?_ (by first | omega | (simp; done) | (simp; omega) | (simp [World.setCell]; omega)) _))⟩
   ·
    have y2 : decide (np ≤ 16) = false := by simpa using n2
    obtain rfl : false = x := by
     have := hx.out
     simp at this
     rw [← this]
     simp
     omega
    go_wp2_with (go_at_call 97; (with_reducible refine (CR.out _).mono ?_); rintro e w1 ⟨rfl, hb1⟩; clear c0 c1 c2 c3 c4 c5 c6 c7 c8 c9 c10; obtain ⟨c0, c1, c2, c3, c4, c5, c6, c7, c8, c9, c10⟩ := RC.out _ hb1)
    go_ret
    exact ⟨rfl, (by repeat (first | exact Below.refl _ _ | assumption | refine below_alloc ?_ _ | refine below_chain (by assumption) ?_ | refine below_call2 (by assumption) ?_ (by first | omega | (simp; done) | (simp; omega) | (simp [World.setCell]; omega)) | refine below_drewN ?_ _ | refine Below.drew ?_ | refine Below.alloc ?_ (by first | omega | (simp; done) | (simp; omega) | (simp [World.setCell]; omega)) _ | refine Below.setCell ?_ (by first | omega | (simp; done) | (simp; omega) | (simp [World.setCell]; omega)) _))⟩
  ·
   have y1 : decide (1 ≤ np) = false := by simpa using n1
   obtain rfl : false = x := by
    have := hx.out
    simp at this
    rw [← this]
    simp
    omega
   go_wp2_with (go_at_call 97; (with_reducible refine (CR.out _).mono ?_); rintro e w1 ⟨rfl, hb1⟩; clear c0 c1 c2 c3 c4 c5 c6 c7 c8 c9 c10; obtain ⟨c0, c1, c2, c3, c4, c5, c6, c7, c8, c9, c10⟩ := RC.out _ hb1)
   go_ret
   exact ⟨rfl, (by repeat (first | exact Below.refl _ _ | assumption | refine below_alloc ?_ _ | refine below_chain (by assumption) ?_ | refine below_call2 (by assumption) ?_ (by first | omega | (simp; done) | (simp; omega) | (simp [World.setCell]; omega)) | refine below_drewN ?_ _ | refine Below.drew ?_ | refine Below.alloc ?_ (by first | omega | (simp; done) | (simp; omega) | (simp [World.setCell]; omega)) _ | refine Below.setCell ?_ (by first | omega | (simp; done) | (simp; omega) | (simp [World.setCell]; omega)) _))⟩
def sT0 (n : Nat) : TSt := ⟨0, [], upto n 0, fun k => { slt0 with sl := k }, 0⟩
structure MakeW (W : World) (D g : Nat) (r : TRule) (n k : Nat) (A : Option Addr) (c : Nat) (gs sbs : Nat → Nat) (Xs : Nat → Nat → Prop) : Prop where
 blk : Blk W g 193 #[.bool r.wd, .int .i64 r.sl, .int .i64 r.gn, .int .u64 r.ka, .int .u64 r.kb, .int .i64 r.np, .int .i64 r.a, .int .i64 r.b, .int .i64 r.c, .int .i64 r.d, .int .i64 r.G, .slice A k c]
 own : OwnT W D A c ((List.range k).map gs)
 tab : ∀ i, i < k → TabP W (gs i) (sbs i) n r.cfg (sT0 n) (Xs i)
 low : ∀ i, i < k → ∀ y, Xs i y → D ≤ y ∧ ¬ InB A y
 dis : ∀ i j, i < k → j < k → i ≠ j → ∀ y, Xs i y → ¬ Xs j y
 gD : g < D
 DW : D ≤ W.heap.size
section
variable {W W1 W2 W3 : World} {D g n k c c' g1 sb1 : Nat} {r : TRule} {A A' : Option Addr} {gs sbs : Nat → Nat} {Xs : Nat → Nat → Prop} {X1 : Nat → Prop}
theorem MakeW.call (h : MakeW W D g r n k A c gs sbs Xs) (hb : Below W.heap.size W W1) : MakeW W1 D g r n k A c gs sbs Xs :=
 ⟨h.blk.call hb, h.own.call hb, fun i hi => (h.tab i hi).chg (Chg.of_below (F := fun _ => False) hb) (fun _ _ h => h), h.low, h.dis, h.gD, by have := hb.size; have := h.DW; omega⟩
theorem MakeW.step (h : MakeW W D g r n k A c gs sbs Xs) (hb : Below W.heap.size W W1) (hT : TabP W1 g1 sb1 n r.cfg (sT0 n) X1) (hX : ∀ y, X1 y → W.heap.size ≤ y) (hO : OwnT W2 D A' c' ((List.range k).map gs ++ [g1])) (hP : Pushed W1 W2 A A') (h3 : W3 = W2.setCell ⟨g, 11, none⟩ (.slice A' (k + 1) c')) :
  ∃ gs' sbs' Xs', MakeW W3 D g r n (k + 1) A' c' gs' sbs' Xs' := by
 subst h3
 have h1 := h.call hb
 have hDW := h.DW
 have hgD := h.gD
 have hz := hb.size
 have hzP := hP.chg.size
 have hAg : ∀ b, InB A b → D ≤ b ∧ b < W.heap.size := fun b hb => h.own.block hb
 have hA1 : ∀ b, InB A' b → D ≤ b := fun b hb => (hO.block hb).1
 have hset : Chg (· = g) W2 (W2.setCell ⟨g, 11, none⟩ (.slice A' (k + 1) c')) := (Chg.refl (· = g) W2).setCell (p := ⟨g, 11, none⟩) (fun _ => rfl) _
 have hmv : ∀ {g' sb'} {Y : Nat → Prop}, TabP W1 g' sb' n r.cfg (sT0 n) Y → (∀ y, Y y → D ≤ y ∧ ¬ InB A y) → TabP (W2.setCell ⟨g, 11, none⟩ (.slice A' (k + 1) c')) g' sb' n r.cfg (sT0 n) Y := fun hY hl =>
  (hY.chg hP.chg fun y hy => (hl y hy).2).chg hset fun y hy e => by have := (hl y hy).1; have e3 : y = g := e; omega
 have hX1 : ∀ y, X1 y → D ≤ y ∧ ¬ InB A y := fun y hy => ⟨by have := hX y hy; omega, fun e => by have := hX y hy; have := (hAg y e).2; omega⟩
 refine ⟨fun j => if j = k then g1 else gs j, fun j => if j = k then sb1 else sbs j, fun j => if j = k then X1 else Xs j, ?_, ?_, fun i hi => ?_, fun i hi y hy => ?_, fun i j hi hj hne y hy hy2 => ?_, hgD, ?_⟩
 ·
  have := (h1.blk.chg hP.chg (fun e => by have := (hAg _ e).1; omega)).set_ 11 (.slice A' (k + 1) c')
  simpa using this
 ·
  have e1 : (List.range (k + 1)).map (fun j => if j = k then g1 else gs j) = (List.range k).map gs ++ [g1] := by
   rw [List.range_succ, List.map_append]
   congr 1
   ·
    refine List.map_congr_left fun j hj => ?_
    have := List.mem_range.1 hj
    simp [show j ≠ k by omega]
   · simp
  rw [e1]
  exact hO.chg hset fun b hb e => by have := hA1 b hb; have e3 : b = g := e; omega
 ·
  by_cases e : i = k
  ·
   subst e
   simp only [if_true]
   exact hmv hT hX1
  ·
   simp only [e, if_false]
   exact hmv (h1.tab i (by omega)) (h.low i (by omega))
 ·
  have hnew : ∀ b, InB A' b → InB A b ∨ W1.heap.size ≤ b := hP.new
  by_cases e : i = k
  ·
   subst e
   simp only [if_true] at hy
   refine ⟨(hX1 y hy).1, fun e => ?_⟩
   rcases hnew y e with h | h
   · exact (hX1 y hy).2 h
   ·
    have := hT.lt hy
    omega
  ·
   simp only [e, if_false] at hy
   refine ⟨(h.low i (by omega) y hy).1, fun e => ?_⟩
   rcases hnew y e with h2 | h2
   · exact (h.low i (by omega) y hy).2 h2
   ·
    have := (h1.tab i (by omega)).lt hy
    omega
 ·
  by_cases e : i = k
  ·
   subst e
   simp only [if_true] at hy
   simp only [show j ≠ i from fun e => hne e.symm, if_false] at hy2
   have := (h.tab j (by omega)).lt hy2
   have := hX y hy
   omega
  ·
   simp only [e, if_false] at hy
   by_cases e2 : j = k
   ·
    subst e2
    simp only [if_true] at hy2
    have := (h.tab i (by omega)).lt hy
    have := hX y hy2
    omega
   ·
    simp only [e2, if_false] at hy2
    exact h.dis i j (by omega) (by omega) hne y hy hy2
 ·
  have := hset.size
  omega
theorem MakeW.done (h : MakeW W D g r n k A c gs sbs Xs) (hk : 1 ≤ k) (hk2 : k ≤ 16) (hr : r.np = (k : Int)) : ∃ X, TabsP W g r k n (fun _ => sT0 n) X ∧ ∀ y, X y → y = g ∨ D ≤ y := by
 obtain ⟨pb, rfl⟩ := h.own.some_of (by simp; omega)
 have hpb := h.own.block (b := pb) ⟨_, rfl, rfl⟩
 have hR := h.own.reads
 have hgD := h.gD
 refine ⟨fun y => y = g ∨ y = pb ∨ ∃ i, i < k ∧ Xs i y, ⟨pb, c, gs, sbs, Xs, h.blk, fun i hi => ?_, h.tab, fun i hi y hy => ?_, h.dis, fun y => Iff.rfl, hpb.2, hr, hk, hk2⟩, fun y hy => ?_⟩
 ·
  obtain ⟨ad, e1, -, hc⟩ := Reads.rec_at ptcell (fun _ => rfl) hR (k := i) (by simpa using hi)
  have := hc 0 (.pointer (some ⟨gs i, 0, none⟩)) (by simp)
  obtain rfl : (⟨pb, 0, none⟩ : Addr) = ad := by simpa using e1
  have e2 : (⟨pb, 0, none⟩ : Addr).add i = ⟨pb, i, none⟩ := by unfold Addr.add; split <;> simp_all
  have e3 : (⟨pb, i, none⟩ : Addr).add 0 = ⟨pb, i, none⟩ := by unfold Addr.add; rfl
  rw [Nat.mul_one, e2, e3] at this
  exact this
 ·
  obtain ⟨h1, h2⟩ := h.low i hi y hy
  exact ⟨by omega, fun e => h2 ⟨_, rfl, e.symm⟩⟩
 ·
  rcases hy with rfl | rfl | ⟨i, hi, hy⟩
  · exact .inl rfl
  · exact .inr hpb.1
  · exact .inr (h.low i hi y hy).1
end
set_option maxRecDepth 100000 in
set_option maxHeartbeats 8000000 in
theorem tabs_new (r : TRule) (hr : ruleOk r = true) (w : World) : Calls Tryz.prog 80 #[r.val] w fun e w' => ∃ g X, e = .returned (.tuple #[.pointer (some ⟨g, 0, none⟩), .int .i64 0]) ∧ TabsP w' g r r.np.toNat (2 ^ r.sl.toNat) (fun _ => sT0 (2 ^ r.sl.toNat)) X ∧ Below w.heap.size w w' ∧ ∀ y, X y → w.heap.size ≤ y := by
 have RT := Lib.hid fun W => tabs_right r W
 rw [hr] at RT
 have R0 := Blk.new w 142 r.cells.toArray
 have hb0 : Below w.heap.size w (w.alloc (.cells r.cells.toArray 142)) := below_alloc (Below.refl _ _) _
 obtain ⟨wd, sl, gn, ka, kb, np, a, b, c, d, G⟩ := r
 unfold ruleOk at hr
 dsimp only at *
 simp only [Bool.and_eq_true, decide_eq_true_eq] at hr
 obtain ⟨⟨⟨hL, hN⟩, hI⟩, hG⟩ := hr
 obtain ⟨sb, gb, rfl, rfl, hs12, -⟩ := layOk_nat hL
 obtain ⟨p, rfl⟩ : ∃ p : Nat, np = p := ⟨np.toNat, by omega⟩
 rw [Int.toNat_natCast, Int.toNat_natCast]
 have TN := Lib.hid fun W => tab_new sb hs12 a b c d hI G hG W
 have hp1 : 1 ≤ p := by omega
 have hp16 : p ≤ 16 := by omega
 clear hL hN hI hG
 obtain ⟨n, hn⟩ : ∃ n, 2 ^ sb = n := ⟨_, rfl⟩
 rw [hn] at TN
 rw [hn]
 clear hn
 obtain ⟨rr, hrr⟩ : ∃ rr : TRule, (⟨wd, sb, gb, ka, kb, p, a, b, c, d, G⟩ : TRule) = rr := ⟨_, rfl⟩
 rw [hrr] at R0 hb0
 rw [hrr]
 go_enter Tryz.func80, Tryz.ntmps80
 go_upto_region 1 with fail
 have hw0 : (w.alloc (.cells rr.cells.toArray 142)).heap.size = w.heap.size + 1 := World.size_alloc _ _
 generalize w.alloc (.cells rr.cells.toArray 142) = w0 at *
 obtain ⟨rb, hrb⟩ : ∃ r, w.heap.size = r := ⟨_, rfl⟩
 rw [hrb] at R0 hw0
 try rw [hrb]
 have RC := Lib.hid fun W (h : Below w0.heap.size w0 W) => RuleAt.of (R0.call h)
 clear R0
 rw [← hrr] at RC
 try dsimp only at RC
 obtain ⟨c0, c1, c2, c3, c4, c5, c6, c7, c8, c9, c10⟩ := RC.out w0 (Below.refl _ _)
 replace hrr := Lib.hid hrr
 have hnp : rr.np = (p : Int) := by rw [← hrr.out]
 have hcf : rr.cfg = ⟨a, b, c, d, G⟩ := by rw [← hrr.out]
 replace hnp := Lib.hid hnp
 replace hcf := Lib.hid hcf
 go_upto_region 4 with (go_at_call 75; (with_reducible refine (RT.out _).mono ?_); rintro e w1 ⟨rfl, hb1⟩; clear c0 c1 c2 c3 c4 c5 c6 c7 c8 c9 c10; obtain ⟨c0, c1, c2, c3, c4, c5, c6, c7, c8, c9, c10⟩ := RC.out w1 hb1)
 have T0 := Blk.new w1 193 #[.bool wd, .int .i64 (sb : Int), .int .i64 (gb : Int), .int .u64 ka, .int .u64 kb, .int .i64 (p : Int), .int .i64 a, .int .i64 b, .int .i64 c, .int .i64 d, .int .i64 G, .slice none 0 0]
 have hb2 : Below w1.heap.size w1 (w1.alloc (.cells #[.bool wd, .int .i64 (sb : Int), .int .i64 (gb : Int), .int .u64 ka, .int .u64 kb, .int .i64 (p : Int), .int .i64 a, .int .i64 b, .int .i64 c, .int .i64 d, .int .i64 G, .slice none 0 0] 193)) := below_alloc (Below.refl _ _) _
 have hb02 := below_chain hb2 hb1
 have hz2 : (w1.alloc (.cells #[.bool wd, .int .i64 (sb : Int), .int .i64 (gb : Int), .int .u64 ka, .int .u64 kb, .int .i64 (p : Int), .int .i64 a, .int .i64 b, .int .i64 c, .int .i64 d, .int .i64 G, .slice none 0 0] 193)).heap.size = w1.heap.size + 1 := World.size_alloc _ _
 obtain ⟨g, hg⟩ : ∃ g, w1.heap.size = g := ⟨_, rfl⟩
 rw [hg] at T0 hz2
 try rw [hg]
 generalize w1.alloc (.cells #[.bool wd, .int .i64 (sb : Int), .int .i64 (gb : Int), .int .u64 ka, .int .u64 kb, .int .i64 (p : Int), .int .i64 a, .int .i64 b, .int .i64 c, .int .i64 d, .int .i64 G, .slice none 0 0] 193) = w2 at *
 have hgw : rb + 1 ≤ g := by have := hb1.size; omega
 have hM0 : MakeW w2 w2.heap.size g rr n 0 none 0 (fun _ => 0) (fun _ => 0) (fun _ _ => False) :=
  ⟨by rw [← hrr.out]; exact T0, OwnA.nil _ _, fun i hi => by omega, fun i hi => by omega, fun i j hi => by omega, by omega, Nat.le_refl _⟩
 clear T0 hb1 hb2 hg c0 c1 c2 c3 c4 c5 c6 c7 c8 c9 c10 RT
 obtain ⟨c0, c1, c2, c3, c4, c5, c6, c7, c8, c9, c10⟩ := RC.out w2 hb02
 replace hM0 := Lib.hid hM0
 go_wp2_with fail
 go_loopg [15] p (fun gk iv wr => ∃ (k : Nat) (A : Option Addr) (q : Nat) (gs sbs : Nat → Nat) (Xs : Nat → Nat → Prop), k + gk = p ∧ iv = .int .i64 (k : Nat) ∧ MakeW wr w2.heap.size g rr n k A q gs sbs Xs ∧ Below w0.heap.size w0 wr)
 case atStart => exact ⟨0, none, 0, _, _, _, by omega, rfl, hM0.out, hb02⟩
 case round =>
  obtain ⟨k, A, q, gs, sbs, Xs, hk, rfl, hM, hbr⟩ := hrel
  clear hM0 c0 c1 c2 c3 c4 c5 c6 c7 c8 c9 c10
  obtain ⟨c0, c1, c2, c3, c4, c5, c6, c7, c8, c9, c10⟩ := RC.out wr hbr
  by_cases hlt : k < p
  ·
   have hlti : (k : Int) < (p : Int) := by omega
   go_upto_region 7 with (go_at_call 103; (with_reducible refine (TN.out _).mono ?_); rintro e w3 ⟨g1, sb1, X1, rfl, hT, hb3, hX1⟩)
   have hM3 := hM.call hb3
   have g11 := hM3.blk.cell 11
   have f11 := hM3.blk.frozen 11
   simp at g11
   have hDW := hM3.DW
   have hgD := hM3.gD
   have hAg : ∀ y, InB A y → w2.heap.size ≤ y := fun y hy => (hM3.own.block hy).1
   clear c0 c1 c2 c3 c4 c5 c6 c7 c8 c9 c10
   go_wp2_with (at_builtin; (refine wpList_push_ptab rfl (.tmp 35) (.tmp 37) rfl w2.heap.size A q ((List.range k).map gs) g1 k (by simp) rfl hM3.own _ (by simp) rfl rfl (by simp; omega) hDW ?_; intro A1 q1 w4 hO4 hP4; have hg4 := hM3.blk.chg hP4.chg (fun e => by have := hAg _ e; omega); have c11 := hg4.cell 11; have d11 := hg4.frozen 11; simp at c11; clear g11 f11))
   obtain ⟨gs', sbs', Xs', hM'⟩ := hM.step (W3 := w4.setCell ⟨g, 11, none⟩ (.slice A1 (k + 1) q1)) hb3 (by rw [hcf.out]; exact hT) hX1 hO4 hP4 rfl
   have b4 : Below w0.heap.size w0 w4 := hP4.below (below_chain hb3 hbr) (by omega) (fun b hb => by have := hAg b hb; omega)
   have b5 : Below w0.heap.size w0 (w4.setCell ⟨g, 11, none⟩ (.slice A1 (k + 1) q1)) := below_chg b4 (Chg.setCell (F := (· = g)) (p := ⟨g, 11, none⟩) (Chg.refl _ _) (fun _ => rfl) _) (fun y hy e => by have e2 : y = g := e; omega) (by have := hP4.chg.size; omega)
   go_roundg (gk - 1)
   case measure => omega
   case rel => exact ⟨k + 1, A1, q1, gs', sbs', Xs', by omega, by go_num, hM', b5⟩
  ·
   obtain rfl : k = p := by omega
   have hlti : ¬ (k : Int) < (k : Int) := by omega
   obtain ⟨X, hP, hX⟩ := hM.done hp1 hp16 hnp.out
   clear hM
   go_wp2_with fail
   go_ret2
   exact ⟨g, rfl, X, hP, by rw [← hrb]; exact below_chain hbr hb0, fun y hy => by have := hb02.size; rcases hX y hy with h | h <;> omega⟩
end Go.Proofs.YtohapcacckapoaaGreat
