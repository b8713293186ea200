/- tables: the document's Drop and Go. tables: the document's Go. tables: the law's helpers, and the document's Right and Small. tables: the document's New. -/
import Derived.Test.YteklkljndchjiaaGreatJ46
import Derived.Test.YteklkljndchjiaaGreatJ35
import Derived.Test.YteklkljndchjiaaGreatJ22
import Derived.Test.YteklkljndchjiaaGreatJ3
import Derived.Test.YteklkljndchjiaaGreatJ44
import Derived.Test.YteklkljndchjiaaGreatJ11
import Derived.Deep.LoopGhost
namespace Go.Proofs.YteklkljndchjiaaGreat
open Go Go.RowKit Go.Deep Go.Maps Go.ChangeMaps
def DTabsTo2 (w w' : World) (A : Option Addr) (g : Nat) (r : TRule) (p n : Nat) (S : Nat → TSt) (X : Nat → Prop) : Prop :=
 ∃ X', DTabsP w' g r p n S X' ∧ Chg X w w' ∧ (∀ y, X' y → X y ∨ w.heap.size ≤ y) ∧ ∀ y, X' y → ¬ InB A y
theorem DTabsTo2.to {w w' : World} {A : Option Addr} {g : Nat} {r : TRule} {p n : Nat} {S : Nat → TSt} {X : Nat → Prop} (h : DTabsTo2 w w' A g r p n S X) : DTabsTo w w' g r p n S X := by
 obtain ⟨X', h1, h2, h3, -⟩ := h
 exact ⟨X', h1, h2, h3⟩
theorem DTabsW.congr {w : World} {g : Nat} {r : TRule} {p n pb q : Nat} {gs : Nat → Nat} {Xs : Nat → Nat → Prop} {X : Nat → Prop} {S S' : Nat → TSt} (h : DTabsW w g r p n S X pb q gs Xs) (e : ∀ i, i < p → S i = S' i) : DTabsW w g r p n S' X pb q gs Xs :=
 ⟨h.blk, h.ps, fun i hi => e i hi ▸ h.tab i hi, h.off, h.dis, h.all, h.pbl, h.np, h.p1, h.p16⟩
structure DRound (w : World) (X : Nat → Prop) (g : Nat) (r : TRule) (p n pb q : Nat) (gs : Nat → Nat) (S S' : Nat → TSt) (LL : Nat → List Slt) (j : Nat) (wx : World) (A : Option Addr) (a : Nat) (X1 : Nat → Prop) : Prop where
 own : OwnE wx w.heap.size A a (catF LL j)
 len : (catF LL j).length ≤ j * 4096
 tab : ∃ Xs, DTabsW wx g r p n (selS S S' j) X1 pb q gs Xs
 chg : Chg X w wx
 new : ∀ y, X1 y → X y ∨ w.heap.size ≤ y
 off : ∀ y, X1 y → ¬ InB A y
section
variable {w w' w4 w5 wx : World} {g p n pb q j a a' : Nat} {r : TRule} {S S' : Nat → TSt} {X X1 X2 F : Nat → Prop} {gs : Nat → Nat} {LL : Nat → List Slt} {A A' : Option Addr}
theorem DRound.next (h : DRound w X g r p n pb q gs S S' LL j wx A a X1) {Xs2 : Nat → Nat → Prop} (k1 : DTabsW w4 g r p n (updS (selS S S' j) j (S' j)) X2 pb q gs Xs2) (k2 : Chg X1 wx w4) (k3 : ∀ y, X2 y → X1 y ∨ wx.heap.size ≤ y) (hl : (LL j).length ≤ 4096)
  (hO : OwnE w5 w.heap.size A' a' (catF LL j ++ LL j)) (hP : Pushed w4 w5 A A') : DRound w X g r p n pb q gs S S' LL (j + 1) w5 A' a' X2 := by
 have hAl : ∀ b, InB A b → w.heap.size ≤ b ∧ b < wx.heap.size := fun b hb => h.own.block hb
 have hz4 := k2.size
 have hzc := h.chg.size
 have hX2d : ∀ y, X2 y → ¬ InB A y := fun y hy e => by
  rcases k3 y hy with h1 | h1
  · exact h.off y h1 e
  ·
   have := (hAl y e).2
   omega
 refine ⟨hO, ?_, ⟨Xs2, ?_⟩, (h.chg.trans k2 fun y hy e => ?_).trans hP.chg fun y hy e => ?_, fun y hy => ?_, fun y hy e => ?_⟩
 ·
  have e : catF LL (j + 1) = catF LL j ++ LL j := rfl
  have := h.len
  rw [e, List.length_append, Nat.succ_mul]
  omega
 ·
  have e := selS_succ S S' j
  rw [← e]
  exact k1.chg hP.chg hX2d
 ·
  rcases h.new y e with h1 | h1
  · exact h1
  · omega
 ·
  have := (hAl y e).1
  omega
 ·
  rcases k3 y hy with h1 | h1
  · exact h.new y h1
  · exact .inr (by omega)
 ·
  rcases hP.new y e with h1 | h1
  · exact hX2d y hy h1
  ·
   have := k1.lt hy
   omega
end
section
variable {w w' w4 w5 wx : World} {g p n : Nat} {r : TRule} {S : Nat → TSt} {X : Nat → Prop}
end
end Go.Proofs.YteklkljndchjiaaGreat
namespace Go.Proofs.YteklkljndchjiaaGreat
open Go Go.RowKit Go.Deep Go.Maps Go.ChangeMaps Go.ChangeShapes Go.WideShapes
set_option maxRecDepth 100000 in
set_option maxHeartbeats 8000000 in
theorem ref20_right (r : TRule) (w : World) : Calls Tryz.prog 7 #[r.val] w fun e w' => e = .returned (.bool (ruleOk r)) ∧ Below w.heap.size w w' := by
 have CR := Lib.hid fun W => refck_right r.wd r.sl r.gn W
 have RT := Lib.hid fun W => refright_any r.a r.b r.c r.d W
 have WG := Lib.hid fun (h : 1 ≤ r.G ∧ r.G ≤ 1024) W => refwheel_new r.G W h
 have WB := Lib.hid fun (h : r.G < 1 ∨ 1024 < r.G) W => refwheel_new_bad r.G W h
 obtain ⟨x, hx⟩ : ∃ x, ruleOk r = x := ⟨_, rfl⟩
 rw [hx]
 unfold ruleOk at hx
 obtain ⟨lo, hlo⟩ : ∃ x, layOk r.wd r.sl r.gn = x := ⟨_, rfl⟩
 obtain ⟨ro, hro⟩ : ∃ x, rightS r.a r.b r.c r.d = x := ⟨_, rfl⟩
 rw [hlo] at CR hx
 rw [hro] at RT hx
 have R0 := Blk.new w 30 r.cells.toArray
 have hb0 : Below w.heap.size w (w.alloc (.cells r.cells.toArray 30)) := below_alloc (Below.refl _ _) _
 obtain ⟨wd, sl, gn, ka, kb, np, a, b, c, d, G⟩ := r
 dsimp only at *
 clear hlo hro
 replace hx := Lib.hid hx
 go_enter Tryz.func7, Tryz.ntmps7
 go_upto_region 1 with fail
 change Code.wp _ _ _ _ (w.alloc (.cells (TRule.cells ⟨wd, sl, gn, ka, kb, np, a, b, c, d, G⟩).toArray 30))
 generalize w.alloc (.cells (TRule.cells ⟨wd, sl, gn, ka, kb, np, a, b, c, d, G⟩).toArray 30) = w0 at *
 obtain ⟨rb, hrb⟩ : ∃ r, w.heap.size = r := ⟨_, rfl⟩
 rw [hrb] at R0
 try rw [hrb]
 have RC := Lib.hid fun W (h : Below w0.heap.size w0 W) => RuleAt.of (R0.call h)
 obtain ⟨c0, c1, c2, c3, c4, c5, c6, c7, c8, c9, c10⟩ := RC.out w0 (Below.refl _ _)
 clear R0
 dsimp only at *
 cases lo
 ·
  obtain rfl : false = x := by simpa using hx.out
  go_wp2_with (go_at_call 71; (with_reducible refine (CR.out _).mono ?_); rintro e w1 ⟨rfl, hb1⟩)
  go_ret
  exact ⟨rfl, (by repeat (first | exact Below.refl _ _ | assumption | refine below_alloc ?_ _ | refine below_chain (by assumption) ?_ | refine below_call2 (by assumption) ?_ (by first | omega | (simp; done) | (simp; omega) | (simp [World.setCell]; omega)) | refine below_drewN ?_ _ | refine Below.drew ?_ | refine Below.alloc ?_ (by first | omega | (simp; done) | (simp; omega) | (simp [World.setCell]; omega)) _ | refine Below.setCell ?_ (by first | omega | (simp; done) | (simp; omega) | (simp [World.setCell]; omega)) _))⟩
 ·
  by_cases n1 : 1 ≤ np
  ·
   have y1 : decide (1 ≤ np) = true := by simpa using n1
   by_cases n2 : np ≤ 16
   ·
    have y2 : decide (np ≤ 16) = true := by simpa using n2
    cases ro
    ·
     obtain rfl : false = x := by simpa using hx.out
     go_wp2_with (first
      | (go_at_call 71; (with_reducible refine (CR.out _).mono ?_); rintro e w1 ⟨rfl, hb1⟩; clear c0 c1 c2 c3 c4 c5 c6 c7 c8 c9 c10; obtain ⟨c0, c1, c2, c3, c4, c5, c6, c7, c8, c9, c10⟩ := RC.out _ hb1)
      | (go_at_call 72; (with_reducible refine (RT.out _).mono ?_); rintro e w2 ⟨rfl, hb2⟩))
     go_ret
     exact ⟨rfl, (by repeat (first | exact Below.refl _ _ | assumption | refine below_alloc ?_ _ | refine below_chain (by assumption) ?_ | refine below_call2 (by assumption) ?_ (by first | omega | (simp; done) | (simp; omega) | (simp [World.setCell]; omega)) | refine below_drewN ?_ _ | refine Below.drew ?_ | refine Below.alloc ?_ (by first | omega | (simp; done) | (simp; omega) | (simp [World.setCell]; omega)) _ | refine Below.setCell ?_ (by first | omega | (simp; done) | (simp; omega) | (simp [World.setCell]; omega)) _))⟩
    ·
     by_cases hG : 1 ≤ G ∧ G ≤ 1024
     ·
      obtain rfl : true = x := by
       have := hx.out
       simp at this
       rw [← this]
       simp
       omega
      have WN := Lib.hid (WG.out hG)
      clear WG WB
      go_wp2_with (first
       | (go_at_call 71; (with_reducible refine (CR.out _).mono ?_); rintro e w1 ⟨rfl, hb1⟩; clear c0 c1 c2 c3 c4 c5 c6 c7 c8 c9 c10; obtain ⟨c0, c1, c2, c3, c4, c5, c6, c7, c8, c9, c10⟩ := RC.out _ hb1)
       | (go_at_call 72; (with_reducible refine (RT.out _).mono ?_); rintro e w2 ⟨rfl, hb2⟩; clear c0 c1 c2 c3 c4 c5 c6 c7 c8 c9 c10; obtain ⟨c0, c1, c2, c3, c4, c5, c6, c7, c8, c9, c10⟩ := RC.out _ (below_chain hb2 hb1))
       | (go_at_call 73; (with_reducible refine (WN.out _).mono ?_); rintro e w3 ⟨rfl, -, hb3⟩))
      go_ret
      exact ⟨rfl, (by repeat (first | exact Below.refl _ _ | assumption | refine below_alloc ?_ _ | refine below_chain (by assumption) ?_ | refine below_call2 (by assumption) ?_ (by first | omega | (simp; done) | (simp; omega) | (simp [World.setCell]; omega)) | refine below_drewN ?_ _ | refine Below.drew ?_ | refine Below.alloc ?_ (by first | omega | (simp; done) | (simp; omega) | (simp [World.setCell]; omega)) _ | refine Below.setCell ?_ (by first | omega | (simp; done) | (simp; omega) | (simp [World.setCell]; omega)) _))⟩
     ·
      obtain rfl : false = x := by
       have := hx.out
       simp at this
       rw [← this]
       simp
       omega
      have WN := Lib.hid (WB.out (by omega))
      clear WG WB
      go_wp2_with (first
       | (go_at_call 71; (with_reducible refine (CR.out _).mono ?_); rintro e w1 ⟨rfl, hb1⟩; clear c0 c1 c2 c3 c4 c5 c6 c7 c8 c9 c10; obtain ⟨c0, c1, c2, c3, c4, c5, c6, c7, c8, c9, c10⟩ := RC.out _ hb1)
       | (go_at_call 72; (with_reducible refine (RT.out _).mono ?_); rintro e w2 ⟨rfl, hb2⟩; clear c0 c1 c2 c3 c4 c5 c6 c7 c8 c9 c10; obtain ⟨c0, c1, c2, c3, c4, c5, c6, c7, c8, c9, c10⟩ := RC.out _ (below_chain hb2 hb1))
       | (go_at_call 73; (with_reducible refine (WN.out _).mono ?_); rintro e w3 ⟨rfl, rfl⟩))
      go_ret
      exact ⟨rfl, (by repeat (first | exact Below.refl _ _ | assumption | refine below_alloc ?_ _ | refine below_chain (by assumption) ?_ | refine below_call2 (by assumption) ?_ (by first | omega | (simp; done) | (simp; omega) | (simp [World.setCell]; omega)) | refine below_drewN ?_ _ | refine Below.drew ?_ | refine Below.alloc ?_ (by first | omega | (simp; done) | (simp; omega) | (simp [World.setCell]; omega)) _ | refine Below.setCell ?_ (by first | omega | (simp; done) | (simp; omega) | (simp [World.setCell]; omega)) _))⟩
   ·
    have y2 : decide (np ≤ 16) = false := by simpa using n2
    obtain rfl : false = x := by
     have := hx.out
     simp at this
     rw [← this]
     simp
     omega
    go_wp2_with (go_at_call 71; (with_reducible refine (CR.out _).mono ?_); rintro e w1 ⟨rfl, hb1⟩; clear c0 c1 c2 c3 c4 c5 c6 c7 c8 c9 c10; obtain ⟨c0, c1, c2, c3, c4, c5, c6, c7, c8, c9, c10⟩ := RC.out _ hb1)
    go_ret
    exact ⟨rfl, (by repeat (first | exact Below.refl _ _ | assumption | refine below_alloc ?_ _ | refine below_chain (by assumption) ?_ | refine below_call2 (by assumption) ?_ (by first | omega | (simp; done) | (simp; omega) | (simp [World.setCell]; omega)) | refine below_drewN ?_ _ | refine Below.drew ?_ | refine Below.alloc ?_ (by first | omega | (simp; done) | (simp; omega) | (simp [World.setCell]; omega)) _ | refine Below.setCell ?_ (by first | omega | (simp; done) | (simp; omega) | (simp [World.setCell]; omega)) _))⟩
  ·
   have y1 : decide (1 ≤ np) = false := by simpa using n1
   obtain rfl : false = x := by
    have := hx.out
    simp at this
    rw [← this]
    simp
    omega
   go_wp2_with (go_at_call 71; (with_reducible refine (CR.out _).mono ?_); rintro e w1 ⟨rfl, hb1⟩; clear c0 c1 c2 c3 c4 c5 c6 c7 c8 c9 c10; obtain ⟨c0, c1, c2, c3, c4, c5, c6, c7, c8, c9, c10⟩ := RC.out _ hb1)
   go_ret
   exact ⟨rfl, (by repeat (first | exact Below.refl _ _ | assumption | refine below_alloc ?_ _ | refine below_chain (by assumption) ?_ | refine below_call2 (by assumption) ?_ (by first | omega | (simp; done) | (simp; omega) | (simp [World.setCell]; omega)) | refine below_drewN ?_ _ | refine Below.drew ?_ | refine Below.alloc ?_ (by first | omega | (simp; done) | (simp; omega) | (simp [World.setCell]; omega)) _ | refine Below.setCell ?_ (by first | omega | (simp; done) | (simp; omega) | (simp [World.setCell]; omega)) _))⟩
def small20 (r : TRule) : Bool := decide (r.sl ≤ 3) && decide (r.np ≤ 4)
structure T20 where
 kd : Int
 tu : Tup
 n : Int
 bk : Int
 ck : Int
 pk : Int
abbrev T20.cells (x : T20) : List Value := [.int .i64 x.kd, .int .i64 x.tu.p, .bool x.tu.v, .int .u64 x.tu.hi, .int .u64 x.tu.lo, .bool x.tu.v', .int .u64 x.tu.hi', .int .u64 x.tu.lo', .int .i64 x.tu.sp, .int .i64 x.tu.dp, .int .i64 x.n, .int .i64 x.bk, .int .u64 x.ck, .int .i64 x.pk]
abbrev T20.val (x : T20) : Value := .agg x.cells.toArray
def t20Wf (x : T20) : Prop := (0 ≤ x.ck ∧ x.ck < 18446744073709551616) ∧ tupWf x.tu
abbrev OwnU (w : World) (base : Nat) (A : Option Addr) (c : Nat) (l : List Int) : Prop := OwnA (fun x => [.int .u64 x]) 1 24 w base A c l
theorem flat_u64 (l : List Int) : l.flatMap (fun x => [Value.int .u64 x]) = l.map (.int .u64) := by
 induction l with
 | nil => rfl
 | cons a l ih => rw [List.flatMap_cons, ih]; rfl
theorem t20_at14 {w : World} {B : Nat} {A : Option Addr} {l : List T20} (h : Reads w B 14 A l.length (l.flatMap T20.cells)) {k : Nat} (hk : k < l.length) :
  ∃ ad s, A = some ad ∧ ad.block < B ∧ l[k]? = some s ∧ (w.cell? (ad.add (k * 14)) = some (.int .i64 s.kd) ∧ w.cell? ⟨(ad.add (k * 14)).block, (ad.add (k * 14)).off + 1, none⟩ = some (.int .i64 s.tu.p) ∧ w.cell? ⟨(ad.add (k * 14)).block, (ad.add (k * 14)).off + 2, none⟩ = some (.bool s.tu.v) ∧ w.cell? ⟨(ad.add (k * 14)).block, (ad.add (k * 14)).off + 3, none⟩ = some (.int .u64 s.tu.hi) ∧ w.cell? ⟨(ad.add (k * 14)).block, (ad.add (k * 14)).off + 4, none⟩ = some (.int .u64 s.tu.lo) ∧ w.cell? ⟨(ad.add (k * 14)).block, (ad.add (k * 14)).off + 5, none⟩ = some (.bool s.tu.v') ∧ w.cell? ⟨(ad.add (k * 14)).block, (ad.add (k * 14)).off + 6, none⟩ = some (.int .u64 s.tu.hi') ∧ w.cell? ⟨(ad.add (k * 14)).block, (ad.add (k * 14)).off + 7, none⟩ = some (.int .u64 s.tu.lo') ∧ w.cell? ⟨(ad.add (k * 14)).block, (ad.add (k * 14)).off + 8, none⟩ = some (.int .i64 s.tu.sp) ∧ w.cell? ⟨(ad.add (k * 14)).block, (ad.add (k * 14)).off + 9, none⟩ = some (.int .i64 s.tu.dp) ∧ w.cell? ⟨(ad.add (k * 14)).block, (ad.add (k * 14)).off + 10, none⟩ = some (.int .i64 s.n) ∧ w.cell? ⟨(ad.add (k * 14)).block, (ad.add (k * 14)).off + 11, none⟩ = some (.int .i64 s.bk) ∧ w.cell? ⟨(ad.add (k * 14)).block, (ad.add (k * 14)).off + 12, none⟩ = some (.int .u64 s.ck) ∧ w.cell? ⟨(ad.add (k * 14)).block, (ad.add (k * 14)).off + 13, none⟩ = some (.int .i64 s.pk)) := by
 obtain ⟨ad, rfl, hb, hc⟩ := h.rec_at T20.cells (fun _ => rfl) hk
 exact ⟨ad, l[k], rfl, hb, List.getElem?_eq_getElem hk, hc 0 _ rfl, hc 1 _ rfl, hc 2 _ rfl, hc 3 _ rfl, hc 4 _ rfl, hc 5 _ rfl, hc 6 _ rfl, hc 7 _ rfl, hc 8 _ rfl, hc 9 _ rfl, hc 10 _ rfl, hc 11 _ rfl, hc 12 _ rfl, hc 13 _ rfl⟩
theorem info_u64P : (Tryz.prog.info? 24).map (fun i => (i.zero, i.size, i.bytes)) = some (some (.int .u64 0), 1, 8) := by kernel_rfl
theorem wpList_push_u64 {W : World} {cs : Array Value} {ops : Array Oper} {rest : List Oper} {o : Oper} {a : Act} {Q : Exit → Act → World → Prop} (hgd : o.guard = none) (s x : Operand)
  (ho : o.op = .call { callee := .builtin .append, args := #[s, x], argTypes := #[43, 43] })
  (base : Nat) (A : Option Addr) (c : Nat) (l : List Int) (v : Int) (n : Nat) (hn : l.length = n) (hs : a.eval s = .slice A n c) (hown : OwnU W base A c l) (g : Nat) (hg : g = W.heap.size) (hcs : ([Value.int .u64 v]).toArray = cs)
  (hx : a.eval x = .slice (some ⟨g, 0, none⟩) 1 1) (hl : l.length ≤ 1000000) (hbase : base ≤ W.heap.size)
  (h : ∀ A' c' w', OwnU w' base A' c' (l ++ [v]) → Pushed W w' A A' → wpList Tryz.prog ops Q rest (a.put o.dst (.slice A' (n + 1) c')) w') : wpList Tryz.prog ops Q (o :: rest) a (W.alloc (.cells cs 24)) := by
 obtain ⟨i0, hi0, hz0, hz1, hz2⟩ := info_parts info_u64P
 exact wpList_push (fun x : Int => [Value.int .u64 x]) 1 (fun _ => rfl) (fun b u hu => by
  simp at hu; subst hu; rfl) (by omega) 43 i0 _ 8 Tryz.underlying43 hi0 hz0 hz1 hz2 rfl (by omega) hgd s x ho base A c l v n hn hs hown g hg hcs hx hl hbase h
@[reducible] def IsAt (ad : Addr) (rs : Nat) (x : Slt) (t : Tup) (W : World) : Prop := W.cell? ad = some (.int .i64 x.t.p) ∧ W.cell? ⟨ad.block, ad.off + 1, none⟩ = some (.bool x.t.v) ∧ W.cell? ⟨ad.block, ad.off + 2, none⟩ = some (.int .u64 x.t.hi) ∧ W.cell? ⟨ad.block, ad.off + 3, none⟩ = some (.int .u64 x.t.lo) ∧ W.cell? ⟨ad.block, ad.off + 4, none⟩ = some (.bool x.t.v') ∧ W.cell? ⟨ad.block, ad.off + 5, none⟩ = some (.int .u64 x.t.hi') ∧ W.cell? ⟨ad.block, ad.off + 6, none⟩ = some (.int .u64 x.t.lo') ∧ W.cell? ⟨ad.block, ad.off + 7, none⟩ = some (.int .i64 x.t.sp) ∧ W.cell? ⟨ad.block, ad.off + 8, none⟩ = some (.int .i64 x.t.dp) ∧ W.cell? ⟨ad.block, ad.off + 9, none⟩ = some (.int .i64 x.bk) ∧ W.cell? ⟨ad.block, ad.off + 10, none⟩ = some (.int .i64 x.st) ∧ W.cell? ⟨ad.block, ad.off + 11, none⟩ = some (.int .i64 x.sl) ∧ W.cell? ⟨ad.block, ad.off + 12, none⟩ = some (.int .u64 x.gen) ∧ W.cell? ⟨ad.block, ad.off + 13, none⟩ = some (.int .i64 x.due) ∧
 W.cell? ⟨rs, 1, none⟩ = some (.int .i64 t.p) ∧ W.cell? ⟨rs, 2, none⟩ = some (.bool t.v) ∧ W.cell? ⟨rs, 3, none⟩ = some (.int .u64 t.hi) ∧ W.cell? ⟨rs, 4, none⟩ = some (.int .u64 t.lo) ∧ W.cell? ⟨rs, 5, none⟩ = some (.bool t.v') ∧ W.cell? ⟨rs, 6, none⟩ = some (.int .u64 t.hi') ∧ W.cell? ⟨rs, 7, none⟩ = some (.int .u64 t.lo') ∧ W.cell? ⟨rs, 8, none⟩ = some (.int .i64 t.sp) ∧ W.cell? ⟨rs, 9, none⟩ = some (.int .i64 t.dp)
theorem IsAt.call {ad : Addr} {rs : Nat} {x : Slt} {t : Tup} {W W' : World} (h : IsAt ad rs x t W) (hb : Below W.heap.size W W') : IsAt ad rs x t W' := by
 have k : ∀ {a : Addr} {v : Value}, W.cell? a = some v → W'.cell? a = some v := fun e => (hb.cell (block_lt_of_cell e)).trans e
 obtain ⟨h0, h1, h2, h3, h4, h5, h6, h7, h8, h9, h10, h11, h12, h13, h14, h15, h16, h17, h18, h19, h20, h21, h22⟩ := h
 exact ⟨k h0, k h1, k h2, k h3, k h4, k h5, k h6, k h7, k h8, k h9, k h10, k h11, k h12, k h13, k h14, k h15, k h16, k h17, k h18, k h19, k h20, k h21, k h22⟩
end Go.Proofs.YteklkljndchjiaaGreat
namespace Go.Proofs.YteklkljndchjiaaGreat
open Go Go.RowKit Go.Deep Go.Maps Go.ChangeMaps
end Go.Proofs.YteklkljndchjiaaGreat
