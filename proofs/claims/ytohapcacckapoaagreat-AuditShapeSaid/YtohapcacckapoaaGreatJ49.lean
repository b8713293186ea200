/- stateful: rules, states, and what stays true of a keeper, in plain words. stateful: a keeper in memory, told by its blocks. stateful: a keeper's rule, and a new keeper. tables: tables that nobody made. stateful: the law's of and chosen; keepers that nobody made. stateful: a keeper's Live, gone, Drop, Go. stateful: a keeper's gone. stateful: the document's keeper in memory, told by .. -/
import Derived.Test.YtohapcacckapoaaGreatJ46
import Derived.Test.YtohapcacckapoaaGreatJ48
import Derived.Test.YtohapcacckapoaaGreatJ9
import Derived.Test.YtohapcacckapoaaGreatJ25
import Derived.Test.YtohapcacckapoaaGreatJ45
import Derived.Test.YtohapcacckapoaaGreatJ16
import Derived.Test.YtohapcacckapoaaGreatJ42
import Derived.Test.YtohapcacckapoaaGreatJ34
import Derived.Test.YtohapcacckapoaaGreatJ47
import Derived.Test.YtohapcacckapoaaGreatJ38
import Derived.Deep.CutRange
import Derived.Test.YtohapcacckapoaaGreatJ43
import Derived.Test.YtohapcacckapoaaGreatJ30
import Derived.Test.YtohapcacckapoaaGreatJ15
namespace Go.Proofs.YtohapcacckapoaaGreat
open Go Go.RowKit Go.Deep Go.Maps Go.ChangeMaps
structure KRule where
 nw : Bool
 ns : Int
 ng : Int
 ww : Bool
 ws : Int
 wg : Int
 ka : Int
 kb : Int
 np : Int
 a : Int
 b : Int
 c : Int
 d : Int
 G : Int
abbrev KRule.cells (r : KRule) : List Value := [.bool r.nw, .int .i64 r.ns, .int .i64 r.ng, .bool r.ww, .int .i64 r.ws, .int .i64 r.wg, .int .u64 r.ka, .int .u64 r.kb, .int .i64 r.np, .int .i64 r.a, .int .i64 r.b, .int .i64 r.c, .int .i64 r.d, .int .i64 r.G]
abbrev KRule.val (r : KRule) : Value := .agg r.cells.toArray
def KRule.r1 (r : KRule) : TRule := ⟨r.nw, r.ns, r.ng, r.ka, r.kb, r.np, r.a, r.b, r.c, r.d, r.G⟩
def KRule.r2 (r : KRule) : TRule := ⟨r.ww, r.ws, r.wg, r.ka, r.kb, r.np, r.a, r.b, r.c, r.d, r.G⟩
def KRule.rb (r : KRule) : Bool → TRule
 | true => r.r1
 | false => r.r2
def KRule.p (r : KRule) : Nat := r.np.toNat
def KRule.n (r : KRule) (b : Bool) : Nat := 2 ^ (r.rb b).sl.toNat
def kruleOk (r : KRule) : Bool := !r.nw && ruleOk r.r1 && (r.ww && ruleOk r.r2)
theorem kruleOk_b {r : KRule} (h : kruleOk r = true) (b : Bool) : ruleOk (r.rb b) = true := by
 unfold kruleOk at h
 simp only [Bool.and_eq_true] at h
 cases b
 · exact h.2.2
 · exact h.1.2
theorem KRule.G_b (r : KRule) (b : Bool) : (r.rb b).G = r.G := by cases b <;> rfl
theorem kruleOk_rng {r : KRule} (h : kruleOk r = true) : r.np = (r.p : Int) ∧ 1 ≤ r.p ∧ r.p ≤ 16 := by
 have h1 := kruleOk_b h true
 unfold ruleOk at h1
 simp only [Bool.and_eq_true, decide_eq_true_eq] at h1
 have h2 : 1 ≤ r.np ∧ r.np ≤ 16 := h1.1.1.2
 unfold KRule.p
 omega
structure LK (r : TRule) (p n : Nat) (S : Nat → TSt) : Prop where
 ti : ∀ i, i < p → TI n (S i)
 pt : ∀ i, i < p → ∀ k : Nat, k < n → ((S i).E k).used = true → pIx r ((S i).E k).t = i
 now : ∀ i, i < p → (S i).now = (S 0).now
 wf : WfE p n S
section
variable {r : TRule} {p n : Nat} {S S' : Nat → TSt} {t : Tup}
theorem LK.new (r : TRule) (p n : Nat) : LK r p n (fun _ => sT0 n) :=
 ⟨fun _ _ => TI.new n, fun i hi k hk hu => (by cases hu), fun _ _ => rfl, WfE.new⟩
theorem LK.all (h : LK r p n S) (hti : ∀ i, i < p → TI n (S' i)) (hk : ∀ i, i < p → KeepE n (S i) (S' i)) (hn : ∀ i, i < p → (S' i).now = (S' 0).now) : LK r p n S' :=
 ⟨hti, fun i hi k hkn hu => by
  obtain ⟨a1, a2, -⟩ := hk i hi k hkn hu
  rw [a2]
  exact h.pt i hi k hkn a1, hn, h.wf.all hk⟩
theorem LK.go (h : LK r p n S) {nw : Int} {SS : Nat → List Int} (hS : ∀ i, i < p → GoS r.G (S i).now nw (S i).M (SS i)) : LK r p n (fun i => goTab n (S i) nw (SS i)) :=
 h.all (fun i hi => ((h.ti i hi).go (hS i hi)).1) (fun i hi => keepE_go (h.ti i hi) (hS i hi)) (fun i hi => by
  rw [((h.ti i hi).go (hS i hi)).2.2.2.2.1, ((h.ti 0 (by omega)).go (hS 0 (by omega))).2.2.2.2.1, h.now i hi])
theorem LK.drop (h : LK r p n S) (bk : Int) : LK r p n (fun i => dropSC n bk (S i)) :=
 h.all (fun i hi => ((h.ti i hi).drop _).1) (fun i hi => keepE_drop (h.ti i hi) bk) (fun i hi => by
  have e : ∀ i, i < p → (dropSC n bk (S i)).now = (S i).now := fun i hi => ((h.ti i hi).drop _).2.2.2.1
  rw [e i hi, e 0 (by omega)]
  exact h.now i hi)
end
structure KSt where
 S : Bool → Nat → TSt
 M : LM
 now : Int
def updB (S : Bool → Nat → TSt) (b : Bool) (T : Nat → TSt) : Bool → Nat → TSt := fun c => if c = b then T else S c
def KRule.liveB (r : KRule) (s : KSt) (b : Bool) : List Slt := entsL (r.n b) r.p (s.S b)
def KRule.live (r : KRule) (s : KSt) : List Slt := r.liveB s true ++ r.liveB s false
structure KI (r : KRule) (s : KSt) : Prop where
 ok : kruleOk r = true
 lk : ∀ b, LK (r.rb b) r.p (r.n b) (s.S b)
 now : ∀ b, (s.S b 0).now = s.now
 ld : LdI s.M fun x => bkN x (r.live s)
def isT (t : Tup) : Bool := t.p == 6
def kIx (r : KRule) (t : Tup) : Nat := pIx (r.rb (isT t)) t
def kPt (r : KRule) (s : KSt) (t : Tup) : TSt := s.S (isT t) (kIx r t)
def kUpd (r : KRule) (s : KSt) (t : Tup) (x : TSt) : Bool → Nat → TSt := updB s.S (isT t) (updS (s.S (isT t)) (kIx r t) x)
def kOpenV (r : KRule) (s : KSt) (t : Tup) (bk fl : Int) : Slt := openV (r.rb (isT t)).cfg (kPt r s t) t bk fl
def kOpenE (r : KRule) (s : KSt) (t : Tup) (bk fl : Int) : Int := openE (kPt r s t) t bk fl
def kOpenC (r : KRule) (s : KSt) (t : Tup) (bk fl : Int) : Int := openCk (r.rb (isT t)) (kPt r s t) t bk fl
def kOpen (r : KRule) (s : KSt) (t : Tup) (bk fl : Int) : KSt := { s with S := kUpd r s t (openS (r.rb (isT t)).cfg (r.n (isT t)) (kPt r s t) t bk fl), M := if kOpenE r s t bk fl = 0 then lmAdd s.M bk 1 else s.M }
def kFindV (r : KRule) (s : KSt) (t : Tup) (k : Int) : Slt := findVC (r.rb (isT t)) (r.n (isT t)) (kPt r s t) t k
def kFindO (r : KRule) (s : KSt) (t : Tup) (k : Int) : Bool := findOkC (r.rb (isT t)) (r.n (isT t)) (kPt r s t) t k
def kFind (r : KRule) (s : KSt) (t : Tup) (k : Int) : KSt := { s with S := kUpd r s t (findSC (r.rb (isT t)) (r.n (isT t)) (kPt r s t) t k) }
def kTouchV (r : KRule) (s : KSt) (t : Tup) (k fl : Int) : Slt := touchVC (r.rb (isT t)) (r.n (isT t)) (kPt r s t) t k fl
def kTouchO (r : KRule) (s : KSt) (t : Tup) (k : Int) : Bool := touchOkC (r.rb (isT t)) (r.n (isT t)) (kPt r s t) t k
def kTouch (r : KRule) (s : KSt) (t : Tup) (k fl : Int) : KSt := { s with S := kUpd r s t (touchSC (r.rb (isT t)) (r.n (isT t)) (kPt r s t) t k fl), M := if (kTouchO r s t k && (kTouchV r s t k fl).st == 4) = true then lmAdd s.M (kTouchV r s t k fl).bk (-1) else s.M }
def KGoS (r : KRule) (s : KSt) (nw : Int) (SS : Bool → Nat → List Int) : Prop := ∀ b i, i < r.p → GoS r.G (s.S b i).now nw (s.S b i).M (SS b i)
def kGoB (r : KRule) (s : KSt) (SS : Bool → Nat → List Int) (b : Bool) : List Slt := catF (fun i => goEnts (s.S b i) (SS b i)) r.p
def kGoL (r : KRule) (s : KSt) (SS : Bool → Nat → List Int) : List Slt := kGoB r s SS true ++ kGoB r s SS false
def kGo (r : KRule) (s : KSt) (nw : Int) (SS : Bool → Nat → List Int) : KSt := ⟨fun b i => goTab (r.n b) (s.S b i) nw (SS b i), lmSubs s.M (kGoL r s SS), goN s.now nw⟩
def kDropB (r : KRule) (s : KSt) (bk : Int) (b : Bool) : List Slt := catF (fun i => entsOf (s.S b i).E (dropL (r.n b) bk (s.S b i))) r.p
def kDropL (r : KRule) (s : KSt) (bk : Int) : List Slt := kDropB r s bk true ++ kDropB r s bk false
def kDrop (r : KRule) (s : KSt) (bk : Int) : KSt := { s with S := fun b i => dropSC (r.n b) bk (s.S b i), M := lmSubs s.M (kDropL r s bk) }
def kNew (r : KRule) : KSt := ⟨fun b _ => sT0 (r.n b), [], 0⟩
section
variable {r : KRule} {s : KSt} {t : Tup}
theorem KI.p1 (h : KI r s) : 1 ≤ r.p ∧ r.p ≤ 16 := (kruleOk_rng h.ok).2
theorem KI.n4 (h : KI r s) (b : Bool) : r.n b ≤ 4096 := by
 have h1 := kruleOk_b h.ok b
 unfold ruleOk layOk at h1
 simp only [Bool.and_eq_true, decide_eq_true_eq] at h1
 have h2 : (r.rb b).sl.toNat ≤ 12 := by omega
 exact Nat.pow_le_pow_right (by omega) h2
theorem KI.lenB (h : KI r s) (b : Bool) : (r.liveB s b).length ≤ 65536 := by
 have h1 := ents_free (fun i hi => (h.lk b).ti i hi) r.p (Nat.le_refl _)
 have h2 := h.n4 b
 have h3 := h.p1
 have h4 : r.p * r.n b ≤ 16 * 4096 := Nat.mul_le_mul h3.2 h2
 unfold KRule.liveB
 omega
theorem KI.len (h : KI r s) : (r.live s).length ≤ 131072 := by
 have h1 := h.lenB true
 have h2 := h.lenB false
 unfold KRule.live
 rw [List.length_append]
 omega
theorem KI.cnt (h : KI r s) (x : Int) : bkN x (r.live s) < 1000000 := by
 have := bkN_le x (r.live s)
 have := h.len
 omega
theorem KI.total (h : KI r s) : lmSum s.M = (r.live s).length ∧ s.M.length ≤ (r.live s).length := h.ld.total
theorem KI.mlen (h : KI r s) : s.M.length ≤ 131072 := by
 have := h.total.2
 have := h.len
 omega
theorem kGo_cnt (h : KI r s) {nw : Int} {SS : Bool → Nat → List Int} (hS : KGoS r s nw SS) (y : Int) : bkN y (r.live s) = bkN y (r.live (kGo r s nw SS)) + bkN y (kGoL r s SS) := by
 have key : ∀ b, bkN y (r.liveB (kGo r s nw SS) b) + bkN y (kGoB r s SS b) = bkN y (r.liveB s b) := fun b =>
  bkN_catF fun i hi => bkN_go ((h.lk b).ti i hi) (hS b i hi) y
 have h1 := key true
 have h2 := key false
 unfold KRule.live kGoL
 rw [bkN_append, bkN_append, bkN_append]
 omega
theorem KI.go (h : KI r s) {nw : Int} {SS : Bool → Nat → List Int} (hS : KGoS r s nw SS) : KI r (kGo r s nw SS) where
 ok := h.ok
 lk := fun b => (h.lk b).go fun i hi => by rw [r.G_b]; exact hS b i hi
 now := fun b => by
  have hp := h.p1
  show (goTab (r.n b) (s.S b 0) nw (SS b 0)).now = goN s.now nw
  rw [← h.now b]
  exact (((h.lk b).ti 0 (by omega)).go (hS b 0 (by omega))).2.2.2.2.1
 ld := h.ld.subs _ (kGo_cnt h hS) h.cnt
theorem kDrop_cnt (h : KI r s) (bk y : Int) : bkN y (r.live s) = bkN y (r.live (kDrop r s bk)) + bkN y (kDropL r s bk) := by
 have key : ∀ b, bkN y (r.liveB (kDrop r s bk) b) + bkN y (kDropB r s bk b) = bkN y (r.liveB s b) := fun b =>
  bkN_catF fun i hi => bkN_drop ((h.lk b).ti i hi) bk y
 have h1 := key true
 have h2 := key false
 unfold KRule.live kDropL
 rw [bkN_append, bkN_append, bkN_append]
 omega
theorem KI.drop (h : KI r s) (bk : Int) : KI r (kDrop r s bk) where
 ok := h.ok
 lk := fun b => (h.lk b).drop bk
 now := fun b => by
  have hp := h.p1
  rw [show (kDrop r s bk).now = s.now from rfl, ← h.now b]
  exact (((h.lk b).ti 0 (by omega)).drop _).2.2.2.1
 ld := h.ld.subs _ (kDrop_cnt h bk) h.cnt
theorem KI.new (hr : kruleOk r = true) : KI r (kNew r) where
 ok := hr
 lk := fun b => LK.new _ _ _
 now := fun _ => rfl
 ld := LdI.new.congr fun y => by
  have key : ∀ b, r.liveB (kNew r) b = [] := fun b => by
   refine List.eq_nil_iff_forall_not_mem.2 fun x hx => ?_
   obtain ⟨i, -, k, -, hu, -⟩ := mem_entsL.1 hx
   cases hu
  unfold KRule.live
  rw [key, key]
  rfl
theorem KI.sub_key {c : Int → Nat} {M : LM} {L : List Slt} (h : LdI M c) (e : ∀ y, bkN y L ≤ c y) {x : Slt} (hx : x ∈ L) : (Lit.int .i64 x.bk).wf = true := by
 refine h.key (b := x.bk) ?_
 have h1 : 0 < bkN x.bk L := List.countP_pos_iff.2 ⟨x, hx, by simp⟩
 have := e x.bk
 omega
end
structure KPtr where
 g : Nat
 gl : Nat
 bl : Nat
 gb : Bool → Nat
abbrev ptr0 (g : Nat) : Value := .pointer (some ⟨g, 0, none⟩)
def tabsOb (g : Nat) (r : TRule) (p n : Nat) (S : Nat → TSt) : Ob := fun w X => TabsP w g r p n S X
def loadOb (gl bl : Nat) (M : LM) : Ob := fun w X => LoadAt w gl bl M ∧ ∀ y, X y ↔ y = gl ∨ y = bl
def keepOb (k : KPtr) (r : KRule) (s : KSt) : Ob :=
 ((Ob.blk k.g 160 #[ptr0 (k.gb true), ptr0 (k.gb false), ptr0 k.gl]).star (loadOb k.gl k.bl s.M)).star
  ((tabsOb (k.gb true) (r.rb true) r.p (r.n true) (s.S true)).star (tabsOb (k.gb false) (r.rb false) r.p (r.n false) (s.S false)))
theorem LoadAt.chg {w w1 : World} {g b : Nat} {M : LM} {F : Nat → Prop} (h : LoadAt w g b M) (k : Chg F w w1) (h1 : ¬ F g) (h2 : ¬ F b) : LoadAt w1 g b M := ⟨h.1.chg k h1, h.2.chg k h2⟩
section
variable {w w' : World} {X F : Nat → Prop} {k : KPtr} {r : KRule} {s : KSt} {g p n gl bl : Nat} {tr : TRule} {S : Nat → TSt} {M : LM}
theorem tabsOb_ok : (tabsOb g tr p n S).Ok := ⟨fun h hy => TabsP.lt h hy, fun h c hd => TabsP.chg h c hd⟩
theorem loadOb_ok : (loadOb gl bl M).Ok := ⟨fun h hy => by
 rcases (h.2 _).1 hy with rfl | rfl
 · exact h.1.lt.1
 · exact h.1.lt.2, fun h c hd => ⟨h.1.chg c (hd _ ((h.2 _).2 (.inl rfl))) (hd _ ((h.2 _).2 (.inr rfl))), h.2⟩⟩
theorem keepOb_ok : (keepOb k r s).Ok := (Ob.blk_ok.star loadOb_ok).star (tabsOb_ok.star tabsOb_ok)
theorem keep_blk (h : keepOb k r s w X) : Blk w k.g 160 #[ptr0 (k.gb true), ptr0 (k.gb false), ptr0 k.gl] ∧ X k.g := by
 obtain ⟨X1, X2, ⟨X3, X4, ⟨h1, e1⟩, -, -, e3⟩, -, -, e2⟩ := h
 exact ⟨h1, (e2 _).2 (.inl ((e3 _).2 (.inl ((e1 _).2 rfl))))⟩
theorem keep_tab2 (b : Bool) (h : keepOb k r s w X) : ∃ X1, TabsP w (k.gb b) (r.rb b) r.p (r.n b) (s.S b) X1 ∧ (∀ y, X1 y → X y) ∧ (∀ T w', TabsTo w w' (k.gb b) (r.rb b) r.p (r.n b) T X1 → (keepOb k r { s with S := updB s.S b T }).To w w' X) ∧
  ∀ T w' Z, (∀ y, Z y → ¬ X y) → (tabsOb (k.gb b) (r.rb b) r.p (r.n b) T).ToZ w w' X1 Z → (keepOb k r { s with S := updB s.S b T }).ToZ w w' X Z := by
 cases b
 ·
  obtain ⟨X1, h1, h2, h3, h4⟩ := Ob.part (Ob.has_right (Ob.blk_ok.star loadOb_ok) (Ob.has_right tabsOb_ok Ob.has_self) : (keepOb k r s).Has (tabsOb (k.gb false) (r.rb false) r.p (r.n false) (s.S false)) _) h
  exact ⟨X1, h1, h2, fun T w' t => h3 (tabsOb (k.gb false) (r.rb false) r.p (r.n false) T) w' t, fun T w' Z hZ t => h4 (tabsOb (k.gb false) (r.rb false) r.p (r.n false) T) w' Z hZ t⟩
 ·
  obtain ⟨X1, h1, h2, h3, h4⟩ := Ob.part (Ob.has_right (Ob.blk_ok.star loadOb_ok) (Ob.has_left tabsOb_ok Ob.has_self) : (keepOb k r s).Has (tabsOb (k.gb true) (r.rb true) r.p (r.n true) (s.S true)) _) h
  exact ⟨X1, h1, h2, fun T w' t => h3 (tabsOb (k.gb true) (r.rb true) r.p (r.n true) T) w' t, fun T w' Z hZ t => h4 (tabsOb (k.gb true) (r.rb true) r.p (r.n true) T) w' Z hZ t⟩
theorem keep_tab (b : Bool) (h : keepOb k r s w X) : ∃ X1, TabsP w (k.gb b) (r.rb b) r.p (r.n b) (s.S b) X1 ∧ (∀ y, X1 y → X y) ∧ ∀ T w', TabsTo w w' (k.gb b) (r.rb b) r.p (r.n b) T X1 → (keepOb k r { s with S := updB s.S b T }).To w w' X := by
 obtain ⟨X1, h1, h2, h3, -⟩ := keep_tab2 b h
 exact ⟨X1, h1, h2, h3⟩
theorem keep_load (h : keepOb k r s w X) : LoadAt w k.gl k.bl s.M ∧ X k.gl ∧ X k.bl ∧ ∀ M' w', LoadAt w' k.gl k.bl M' → Chg (fun y => y = k.gl ∨ y = k.bl) w w' → (keepOb k r { s with M := M' }).To w w' X := by
 obtain ⟨X1, ⟨h1, e1⟩, h2, h3, -⟩ := Ob.part (Ob.has_left (tabsOb_ok.star tabsOb_ok) (Ob.has_right Ob.blk_ok Ob.has_self) : (keepOb k r s).Has (loadOb k.gl k.bl s.M) _) h
 exact ⟨h1, h2 _ ((e1 _).2 (.inl rfl)), h2 _ ((e1 _).2 (.inr rfl)), fun M' w' k1 k2 => h3 (loadOb k.gl k.bl M') w' (Ob.To.of ⟨k1, e1⟩ (k2.mono fun y _ hy => (e1 y).2 hy))⟩
theorem keep_given (h : keepOb k r s w X) : Calls Tryz.prog 81 #[ptr0 k.g] w fun e w' => e = .returned (.bool true) ∧ w = w' := by
 have c2 := (keep_blk h).1.cell 2
 go_enter Tryz.func81, Tryz.ntmps81
 go_wp2_with fail
 go_ret
 exact ⟨rfl, rfl⟩
theorem keep_of (h : keepOb k r s w X) (q : Int) : Calls Tryz.prog 111 #[ptr0 k.g, .int .i64 q] w fun e w' => e = .returned (ptr0 (k.gb (q == 6))) ∧ Below w.heap.size w w' := by
 have GV := Lib.hid (keep_given h)
 have c0 := (keep_blk h).1.cell 0
 have c1 := (keep_blk h).1.cell 1
 clear h
 cases hq : q == 6
 ·
  go_enter Tryz.func111, Tryz.ntmps111
  go_wp2_with (go_at_call 81; with_reducible refine GV.out.mono ?_; rintro e w1 ⟨rfl, rfl⟩)
  go_ret
  exact ⟨rfl, Below.refl _ _⟩
 ·
  go_enter Tryz.func111, Tryz.ntmps111
  go_wp2_with (go_at_call 81; with_reducible refine GV.out.mono ?_; rintro e w1 ⟨rfl, rfl⟩)
  go_ret
  exact ⟨rfl, Below.refl _ _⟩
theorem keep_add (h : keepOb k r s w X) {id : Int} (n : Int) (hk : (Lit.int .i64 id).wf = true) (hp : lmPos s.M) (hl : s.M.length ≤ 1000000) :
  Calls Tryz.prog 107 #[ptr0 k.gl, .int .i64 id, .int .i64 n] w fun e w' => e = .returned (.tuple #[]) ∧ (keepOb k r { s with M := lmAdd s.M id n }).To w w' X := by
 obtain ⟨h1, -, -, h2⟩ := keep_load h
 refine (load_add k.gl k.bl s.M id n w h1 hk hp hl).mono ?_
 rintro e w' ⟨rfl, k1, k2⟩
 exact ⟨rfl, h2 _ _ k1 (k2.mono fun y _ hy => .inr hy)⟩
theorem keep_free (h : keepOb k r s w X) (q i : Int) : Calls Tryz.prog 95 #[ptr0 k.g, .int .i64 q, .int .i64 i] w fun e w' => e = .returned (.int .i64 (freeI r.p (s.S (q == 6)) i)) ∧ Below w.heap.size w w' := by
 have OF := Lib.hid (keep_of h q)
 generalize hb : (q == 6) = b at *
 have FR := Lib.hid fun (W : World) (hbW : Below w.heap.size w W) => by
  obtain ⟨X1, h1, -, -⟩ := keep_tab b (keepOb_ok.call h hbW)
  exact tabs_freeP h1 i
 clear h hb
 generalize freeI r.p (s.S b) i = fv at *
 go_enter Tryz.func95, Tryz.ntmps95
 go_wp2_with (first
  | (go_at_call 111; (with_reducible refine OF.out.mono ?_); rintro e w1 ⟨rfl, hb1⟩)
  | (go_at_call 115; (with_reducible refine (FR.out _ hb1).mono ?_); rintro e w2 ⟨rfl, rfl⟩))
 go_ret
 exact ⟨rfl, hb1⟩
end
theorem rule_index0 (x0 x1 x2 x3 x4 x5 x6 x7 x8 x9 x10 y0 y1 y2 y3 y4 y5 y6 y7 y8 y9 y10 : Value) (W : World) : (Instr.index 143 (.agg #[x0, x1, x2, x3, x4, x5, x6, x7, x8, x9, x10, y0, y1, y2, y3, y4, y5, y6, y7, y8, y9, y10]) (.int .i64 0)).run Tryz.prog W = .ok (.agg #[x0, x1, x2, x3, x4, x5, x6, x7, x8, x9, x10]) W := by kernel_rfl
theorem rule_index1 (x0 x1 x2 x3 x4 x5 x6 x7 x8 x9 x10 y0 y1 y2 y3 y4 y5 y6 y7 y8 y9 y10 : Value) (W : World) : (Instr.index 143 (.agg #[x0, x1, x2, x3, x4, x5, x6, x7, x8, x9, x10, y0, y1, y2, y3, y4, y5, y6, y7, y8, y9, y10]) (.int .i64 1)).run Tryz.prog W = .ok (.agg #[y0, y1, y2, y3, y4, y5, y6, y7, y8, y9, y10]) W := by kernel_rfl
abbrev KRule.both (r : KRule) : Array Value := #[.bool r.nw, .int .i64 r.ns, .int .i64 r.ng, .int .u64 r.ka, .int .u64 r.kb, .int .i64 r.np, .int .i64 r.a, .int .i64 r.b, .int .i64 r.c, .int .i64 r.d, .int .i64 r.G, .bool r.ww, .int .i64 r.ws, .int .i64 r.wg, .int .u64 r.ka, .int .u64 r.kb, .int .i64 r.np, .int .i64 r.a, .int .i64 r.b, .int .i64 r.c, .int .i64 r.d, .int .i64 r.G]
abbrev KRule.l1 (r : KRule) : List Value := [.bool r.nw, .int .i64 r.ns, .int .i64 r.ng, .int .u64 r.ka, .int .u64 r.kb, .int .i64 r.np, .int .i64 r.a, .int .i64 r.b, .int .i64 r.c, .int .i64 r.d, .int .i64 r.G]
abbrev KRule.l2 (r : KRule) : List Value := [.bool r.ww, .int .i64 r.ws, .int .i64 r.wg, .int .u64 r.ka, .int .u64 r.kb, .int .i64 r.np, .int .i64 r.a, .int .i64 r.b, .int .i64 r.c, .int .i64 r.d, .int .i64 r.G]
theorem kr_both (r : KRule) (w : World) : Calls Tryz.prog 74 #[r.val] w fun e w' => e = .returned (.agg r.both) ∧ Below w.heap.size w w' := both_raw r.nw r.ns r.ng r.ww r.ws r.wg r.ka r.kb r.np r.a r.b r.c r.d r.G w
theorem kr_right1 (r : KRule) (w : World) : Calls Tryz.prog 75 #[.agg r.l1.toArray] w fun e w' => e = .returned (.bool (ruleOk r.r1)) ∧ Below w.heap.size w w' := tabs_right r.r1 w
theorem kr_right2 (r : KRule) (w : World) : Calls Tryz.prog 75 #[.agg r.l2.toArray] w fun e w' => e = .returned (.bool (ruleOk r.r2)) ∧ Below w.heap.size w w' := tabs_right r.r2 w
set_option maxRecDepth 100000 in
set_option maxHeartbeats 8000000 in
theorem keep_right (r : KRule) (w : World) : Calls Tryz.prog 45 #[r.val] w fun e w' => e = .returned (.bool (kruleOk r)) ∧ Below w.heap.size w w' := by
 have BO := Lib.hid fun W => kr_both r W
 have R1 := Lib.hid fun W => kr_right1 r W
 have R2 := Lib.hid fun W => kr_right2 r W
 have i0 := fun W => rule_index0 (.bool r.nw) (.int .i64 r.ns) (.int .i64 r.ng) (.int .u64 r.ka) (.int .u64 r.kb) (.int .i64 r.np) (.int .i64 r.a) (.int .i64 r.b) (.int .i64 r.c) (.int .i64 r.d) (.int .i64 r.G) (.bool r.ww) (.int .i64 r.ws) (.int .i64 r.wg) (.int .u64 r.ka) (.int .u64 r.kb) (.int .i64 r.np) (.int .i64 r.a) (.int .i64 r.b) (.int .i64 r.c) (.int .i64 r.d) (.int .i64 r.G) W
 have i1 := fun W => rule_index1 (.bool r.nw) (.int .i64 r.ns) (.int .i64 r.ng) (.int .u64 r.ka) (.int .u64 r.kb) (.int .i64 r.np) (.int .i64 r.a) (.int .i64 r.b) (.int .i64 r.c) (.int .i64 r.d) (.int .i64 r.G) (.bool r.ww) (.int .i64 r.ws) (.int .i64 r.wg) (.int .u64 r.ka) (.int .u64 r.kb) (.int .i64 r.np) (.int .i64 r.a) (.int .i64 r.b) (.int .i64 r.c) (.int .i64 r.d) (.int .i64 r.G) W
 have B1 := Blk.new w 45 r.cells.toArray
 have hb0 : Below w.heap.size w (w.alloc (.cells r.cells.toArray 45)) := below_alloc (Below.refl _ _) _
 have hfin : kruleOk r = (!r.nw && ruleOk r.r1 && (r.ww && ruleOk r.r2)) := rfl
 rw [hfin]
 generalize ruleOk r.r1 = o1 at *
 generalize ruleOk r.r2 = o2 at *
 clear hfin
 go_enter Tryz.func45, Tryz.ntmps45
 go_upto_region 1 with fail
 change Code.wp _ _ _ _ (w.alloc (.cells r.cells.toArray 45))
 generalize w.alloc (.cells r.cells.toArray 45) = w1 at *
 obtain ⟨rk, hrk⟩ : ∃ r, w.heap.size = r := ⟨_, rfl⟩
 rw [hrk] at B1 hb0
 try rw [hrk]
 go_wp2_with (first
  | (with_reducible refine wpList_load_blk rfl 45 (.tmp 1) rfl rk 0 rfl B1 r.cells rfl _ Tryz.underlying45 rfl (by kernel_rfl) ?_)
  | (go_at_call 74; (with_reducible refine (BO.out _).mono ?_); rintro e w2 ⟨rfl, hb2⟩))
 have hb2' := below_call2 hb2 hb0 (by have := B1.lt; omega)
 have hz2 : rk < w2.heap.size := by have := (B1.call hb2).lt; exact this
 clear hb2 B1 BO
 refine wp_loop_rounds 3 ?_
 rw [rounds_succ]
 go_upto_region 4 with fail
 change Code.wp _ _ _ _ (w2.alloc (.cells r.l1.toArray 142))
 have D1 := Blk.new w2 142 r.l1.toArray
 have hb3 := below_call2 (below_alloc (Below.refl w2.heap.size w2) (.cells r.l1.toArray 142)) hb2' (by omega)
 generalize w2.alloc (.cells r.l1.toArray 142) = w3 at *
 have c0 : w3.cell? ⟨w2.heap.size, 0, none⟩ = some (.bool r.nw) := D1.cell 0
 have c1 : w3.cell? ⟨w2.heap.size, 1, none⟩ = some (.int .i64 r.ns) := D1.cell 1
 have c2 : w3.cell? ⟨w2.heap.size, 2, none⟩ = some (.int .i64 r.ng) := D1.cell 2
 have c3 : w3.cell? ⟨w2.heap.size, 3, none⟩ = some (.int .u64 r.ka) := D1.cell 3
 have c4 : w3.cell? ⟨w2.heap.size, 4, none⟩ = some (.int .u64 r.kb) := D1.cell 4
 have c5 : w3.cell? ⟨w2.heap.size, 5, none⟩ = some (.int .i64 r.np) := D1.cell 5
 have c6 : w3.cell? ⟨w2.heap.size, 6, none⟩ = some (.int .i64 r.a) := D1.cell 6
 have c7 : w3.cell? ⟨w2.heap.size, 7, none⟩ = some (.int .i64 r.b) := D1.cell 7
 have c8 : w3.cell? ⟨w2.heap.size, 8, none⟩ = some (.int .i64 r.c) := D1.cell 8
 have c9 : w3.cell? ⟨w2.heap.size, 9, none⟩ = some (.int .i64 r.d) := D1.cell 9
 have c10 : w3.cell? ⟨w2.heap.size, 10, none⟩ = some (.int .i64 r.G) := D1.cell 10
 have hz3 := D1.lt
 clear D1
 cases hnw : r.nw
 ·
  rw [hnw] at c0
  cases o1
  ·
   go_wp2_with (go_at_call 75; (have R1' := R1.out w3); simp only [KRule.l1, hnw] at R1'; (with_reducible refine R1'.mono ?_); rintro e w4 ⟨rfl, hb4⟩)
   have hb4' := below_call2 hb4 hb3 (by omega)
   have hz4 := hb4.size
   go_ret
   exact ⟨by simp [*], by rw [hrk]; exact hb4'⟩
  ·
   go_wp2_with (go_at_call 75; (have R1' := R1.out w3); simp only [KRule.l1, hnw] at R1'; (with_reducible refine R1'.mono ?_); rintro e w4 ⟨rfl, hb4⟩)
   have hb4' := below_call2 hb4 hb3 (by omega)
   have hz4 := hb4.size
   clear c0 c1 c2 c3 c4 c5 c6 c7 c8 c9 c10
   rw [rounds_succ]
   go_upto_region 4 with fail
   change Code.wp _ _ _ _ (w4.alloc (.cells r.l2.toArray 142))
   have D1 := Blk.new w4 142 r.l2.toArray
   have hb5 := below_call2 (below_alloc (Below.refl w4.heap.size w4) (.cells r.l2.toArray 142)) hb4' (by omega)
   generalize w4.alloc (.cells r.l2.toArray 142) = w5 at *
   have c0 : w5.cell? ⟨w4.heap.size, 0, none⟩ = some (.bool r.ww) := D1.cell 0
   have c1 : w5.cell? ⟨w4.heap.size, 1, none⟩ = some (.int .i64 r.ws) := D1.cell 1
   have c2 : w5.cell? ⟨w4.heap.size, 2, none⟩ = some (.int .i64 r.wg) := D1.cell 2
   have c3 : w5.cell? ⟨w4.heap.size, 3, none⟩ = some (.int .u64 r.ka) := D1.cell 3
   have c4 : w5.cell? ⟨w4.heap.size, 4, none⟩ = some (.int .u64 r.kb) := D1.cell 4
   have c5 : w5.cell? ⟨w4.heap.size, 5, none⟩ = some (.int .i64 r.np) := D1.cell 5
   have c6 : w5.cell? ⟨w4.heap.size, 6, none⟩ = some (.int .i64 r.a) := D1.cell 6
   have c7 : w5.cell? ⟨w4.heap.size, 7, none⟩ = some (.int .i64 r.b) := D1.cell 7
   have c8 : w5.cell? ⟨w4.heap.size, 8, none⟩ = some (.int .i64 r.c) := D1.cell 8
   have c9 : w5.cell? ⟨w4.heap.size, 9, none⟩ = some (.int .i64 r.d) := D1.cell 9
   have c10 : w5.cell? ⟨w4.heap.size, 10, none⟩ = some (.int .i64 r.G) := D1.cell 10
   have hz5 := D1.lt
   clear D1
   cases hww : r.ww
   ·
    rw [hww] at c0
    go_wp2_with fail
    go_ret
    exact ⟨by simp [*], by rw [hrk]; exact hb5⟩
   ·
    rw [hww] at c0
    cases o2
    ·
     go_wp2_with (go_at_call 75; (have R2' := R2.out w5); simp only [KRule.l2, hww] at R2'; (with_reducible refine R2'.mono ?_); rintro e w6 ⟨rfl, hb6⟩)
     have hb6' := below_call2 hb6 hb5 (by omega)
     go_ret
     exact ⟨by simp [*], by rw [hrk]; exact hb6'⟩
    ·
     go_wp2_with (go_at_call 75; (have R2' := R2.out w5); simp only [KRule.l2, hww] at R2'; (with_reducible refine R2'.mono ?_); rintro e w6 ⟨rfl, hb6⟩)
     have hb6' := below_call2 hb6 hb5 (by omega)
     rw [rounds_succ]
     go_wp2_with fail
     go_ret
     exact ⟨by simp [*], by rw [hrk]; exact hb6'⟩
 ·
  rw [hnw] at c0
  go_wp2_with fail
  go_ret
  exact ⟨by simp [*], by rw [hrk]; exact hb3⟩
attribute [local go_sem] Oper.semAt_some
abbrev tabsZ : Array Value := #[.bool false, .int .i64 0, .int .i64 0, .int .u64 0, .int .u64 0, .int .i64 0, .int .i64 0, .int .i64 0, .int .i64 0, .int .i64 0, .int .i64 0, .slice none 0 0]
end Go.Proofs.YtohapcacckapoaaGreat
namespace Go.Proofs.YtohapcacckapoaaGreat
open Go Go.RowKit Go.Deep Go.Maps Go.ChangeMaps
abbrev keepZ : Array Value := #[.pointer none, .pointer none, .pointer none]
def KNo (v : Value) (w : World) : Prop := v = .pointer none ∨ ∃ g, v = ptr0 g ∧ Blk w g 160 keepZ
theorem KNo.call {v : Value} {w w' : World} (h : KNo v w) (hb : Below w.heap.size w w') : KNo v w' := by
 rcases h with h | ⟨g, h1, h2⟩
 · exact .inl h
 · exact .inr ⟨g, h1, h2.call hb⟩
section
variable {w : World} {v : Value}
theorem kno_given (h : KNo v w) : Calls Tryz.prog 81 #[v] w fun e w' => e = .returned (.bool false) ∧ w = w' := by
 rcases h with rfl | ⟨g, rfl, h⟩
 ·
  go_enter Tryz.func81, Tryz.ntmps81
  go_wp2_with fail
  go_ret
  exact ⟨rfl, rfl⟩
 ·
  have c2 : w.cell? ⟨g, 2, none⟩ = some (.pointer none) := h.cell 2
  go_enter Tryz.func81, Tryz.ntmps81
  go_wp2_with fail
  go_ret
  exact ⟨rfl, rfl⟩
theorem kno_live (h : KNo v w) : Calls Tryz.prog 53 #[v] w fun e w' => e = .returned (.slice none 0 0) ∧ w = w' := by
 have GV := Lib.hid (kno_given h)
 clear h
 go_enter Tryz.func53, Tryz.ntmps53
 go_wp2_with (go_at_call 81; with_reducible refine GV.out.mono ?_; rintro e w1 ⟨rfl, rfl⟩)
 go_ret
 exact ⟨rfl, rfl⟩
end
theorem to_chg {P : Ob} {w w' : World} {X : Nat → Prop} (h : P.To w w' X) : Chg X w w' := by
 obtain ⟨_, _, h, _⟩ := h
 exact h
theorem lmAdd_len_neg {M : LM} {id : Int} (h0 : lmGet M id ≠ 0) : (lmAdd M id (-1)).length ≤ M.length := by
 have hm : ∃ x ∈ M, x.1 = id := by
  unfold lmGet at h0
  cases hf : M.find? (fun x => x.1 == id) with
  | none => rw [hf] at h0; exact absurd rfl h0
  | some x => exact ⟨x, List.mem_of_find?_eq_some hf, by simpa using List.find?_some hf⟩
 have hlt : (lmDel M id).length < M.length := by
  obtain ⟨x, hx, e⟩ := hm
  unfold lmDel
  refine List.length_filter_lt_length_iff_exists.2 ⟨x, hx, by simp [e]⟩
 unfold lmAdd
 rw [if_neg (by omega)]
 split
 · omega
 ·
  unfold lmPut
  rw [lmIns_length]
  omega
theorem subs_step {c : Int → Nat} : ∀ (L : List Slt) {M : LM}, LdI M c → (∀ y, bkN y L ≤ c y) → (∀ b, c b < 1000000) → ∀ j (hj : j < L.length), (Lit.int .i64 (L[j]).bk).wf = true ∧ lmPos (lmSubs M (L.take j)) ∧ lmSorted (lmSubs M (L.take j)) ∧ (lmSubs M (L.take j)).length ≤ M.length := by
 intro L M h he hc j hj
 have key : ∀ j, j ≤ L.length → LdI (lmSubs M (L.take j)) (fun x => c x - bkN x (L.take j)) ∧ (lmSubs M (L.take j)).length ≤ M.length := fun j => by
  induction j with
  | zero => intro _; exact ⟨h.congr fun b => by simp [bkN], Nat.le_refl _⟩
  | succ j ih =>
   intro hj
   obtain ⟨i1, i2⟩ := ih (by omega)
   have hj' : j < L.length := by omega
   have e1 : L.take (j + 1) = L.take j ++ [L[j]] := by rw [List.take_add_one, List.getElem?_eq_getElem hj']; rfl
   have e2 : ∀ x, bkN x (L.take (j + 1)) = bkN x (L.take j) + (L[j].bk == x).toNat := fun x => by rw [e1, bkN_append, bkN_one]
   have e3 : ∀ x, bkN x (L.take (j + 1)) ≤ c x := fun x => by
    have h1 := he x
    have h2 : bkN x L = bkN x (L.take (j + 1)) + bkN x (L.drop (j + 1)) := by rw [← bkN_append, List.take_append_drop]
    omega
   rw [lmSubs_take hj']
   refine ⟨i1.sub (fun x => ?_) ?_, Nat.le_trans (lmAdd_len_neg ?_) i2⟩
   ·
    have := e2 x
    have := e3 x
    omega
   ·
    have := hc L[j].bk
    omega
   ·
    rw [i1.get]
    have h1 := e2 L[j].bk
    have h2 := e3 L[j].bk
    simp only [beq_self_eq_true, Bool.toNat_true] at h1
    omega
 obtain ⟨i1, i2⟩ := key j (by omega)
 exact ⟨KI.sub_key h he (List.getElem_mem hj), i1.pos, i1.srt, i2⟩
theorem ptr_index0 (a b : Value) (W : World) : (Instr.index 158 (.agg #[a, b]) (.int .i64 0)).run Tryz.prog W = .ok a W := by kernel_rfl
theorem ptr_index1 (a b : Value) (W : World) : (Instr.index 158 (.agg #[a, b]) (.int .i64 1)).run Tryz.prog W = .ok b W := by kernel_rfl
section
variable {w w' : World} {X F : Nat → Prop} {k : KPtr} {r : KRule} {s : KSt}
theorem keep_liveB (b : Bool) (h : keepOb k r s w X) : Calls Tryz.prog 84 #[ptr0 (k.gb b)] w fun e w' => ∃ (A : Option Addr) (a : Nat), e = .returned (.slice A (r.liveB s b).length a) ∧ OwnE w' w.heap.size A a (r.liveB s b) ∧ Below w.heap.size w w' := by
 obtain ⟨X1, h1, -, -⟩ := keep_tab b h
 exact tabs_live h1
set_option maxRecDepth 100000 in
set_option maxHeartbeats 8000000 in
theorem keep_live (hI : KI r s) (h : keepOb k r s w X) : Calls Tryz.prog 53 #[ptr0 k.g] w fun e w' => ∃ (A : Option Addr) (a : Nat), e = .returned (.slice A (r.live s).length a) ∧ OwnE w' w.heap.size A a (r.live s) ∧ Below w.heap.size w w' := by
 have GV := Lib.hid (keep_given h)
 have c0 := (keep_blk h).1.cell 0
 have c1 := (keep_blk h).1.cell 1
 have l1 := hI.lenB true
 have l2 := hI.lenB false
 have LV := Lib.hid fun b (W : World) (hb : Below w.heap.size w W) => keep_liveB b (keepOb_ok.call h hb)
 have LV1 := Lib.hid (LV.out true)
 have LV2 := Lib.hid (LV.out false)
 have i0 := fun W => ptr_index0 (ptr0 (k.gb true)) (ptr0 (k.gb false)) W
 have i1 := fun W => ptr_index1 (ptr0 (k.gb true)) (ptr0 (k.gb false)) W
 unfold KRule.live
 obtain ⟨L1, e1⟩ : ∃ L, r.liveB s true = L := ⟨_, rfl⟩
 obtain ⟨L2, e2⟩ : ∃ L, r.liveB s false = L := ⟨_, rfl⟩
 rw [e1] at LV1 l1 ⊢
 rw [e2] at LV2 l2 ⊢
 clear LV e1 e2 h hI
 go_enter Tryz.func53, Tryz.ntmps53
 go_wp2_with (go_at_call 81; with_reducible refine GV.out.mono ?_; rintro e w1 ⟨rfl, rfl⟩)
 refine wp_loop_rounds 3 ?_
 rw [rounds_succ]
 go_wp2_with (first
  | (go_at_call 84; (with_reducible refine (LV1.out _ (Below.refl _ _)).mono ?_); rintro e w1 ⟨A1, q1, rfl, hO1, hb1⟩)
  | (at_builtin; (refine wpList_push_ents2 rfl (.tmp 16) (.tmp 18) rfl w.heap.size none 0 [] 0 rfl rfl (OwnA.nil _ _) A1 q1 L1 L1.length rfl rfl hO1.reads (by omega) hb1.size ?_; intro A3 q3 w3 hO3 hP3)))
 have hb3 := hP3.below hb1 hb1.size (fun b hb => by obtain ⟨a, e, -⟩ := hb; cases e)
 rw [List.nil_append] at hO3
 clear hP3
 rw [rounds_succ]
 go_wp2_with (first
  | (go_at_call 84; (with_reducible refine (LV2.out _ hb3).mono ?_); rintro e w4 ⟨A4, q4, rfl, hO4, hb4⟩)
  | (at_builtin; (refine wpList_push_ents2 rfl (.tmp 16) (.tmp 18) rfl w.heap.size A3 q3 L1 L1.length rfl rfl (hO3.call hb4) A4 q4 L2 L2.length rfl rfl hO4.reads (by omega) (by have := hb3.size; have := hb4.size; omega) ?_; intro A5 q5 w5 hO5 hP5)))
 have hb5 := hP5.below (below_chain hb4 hb3) (by have := hb3.size; have := hb4.size; omega) (fun b hb => ((hO3.call hb4).block hb).1)
 clear hP5
 rw [rounds_succ]
 go_wp2_with fail
 go_ret
 exact ⟨A5, q5, by rw [List.length_append]; simp, hO5, hb5⟩
end
section
variable {w w' : World} {X F : Nat → Prop} {k : KPtr} {r : KRule} {s : KSt}
set_option maxRecDepth 100000 in
set_option maxHeartbeats 8000000 in
theorem keep_gone (h : keepOb k r s w X) (L : List Slt) (A : Option Addr) (d : Nat) (hR : Reads w w.heap.size 14 A L.length (L.flatMap Slt.ent)) (hA : ∀ ad, A = some ad → ¬ X ad.block) (ST0 : ∀ j (hj : j < L.length), (Lit.int .i64 (L[j]).bk).wf = true ∧ lmPos (lmSubs s.M (L.take j)) ∧ (lmSubs s.M (L.take j)).length ≤ 1000000) (hl : L.length ≤ 1000000) :
  Calls Tryz.prog 83 #[ptr0 k.g, .slice A L.length d] w fun e w' => e = .returned (.tuple #[]) ∧ (keepOb k r { s with M := lmSubs s.M L }).To w w' X := by
 have ST := Lib.hid ST0
 have hlt := fun y (hy : X y) => keepOb_ok.lt h hy
 have RX : ∀ j, j = 0 → keepOb k r { s with M := lmSubs s.M (L.take j) } w X := fun j e => by subst e; exact h
 clear ST0
 go_enter Tryz.func83, Tryz.ntmps83
 go_wp2_with fail
 go_loopw [8] (fun i wr => ∃ (j : Nat) (X1 : Nat → Prop), j ≤ L.length ∧ i = .int .i64 (j : Nat) ∧ keepOb k r { s with M := lmSubs s.M (L.take j) } wr X1 ∧ Chg X w wr ∧ ∀ y, X1 y → X y ∨ w.heap.size ≤ y) (fun i _ => L.length - (intOf i).toNat)
 case atStart => exact ⟨0, X, by omega, rfl, RX 0 rfl, Chg.refl _ _, fun y hy => .inl hy⟩
 case round =>
  obtain ⟨j, X1, hj, rfl, hW, hch, hn⟩ := hrel
  clear RX
  by_cases hjl : j < L.length
  ·
   have hji : (j : Int) < (L.length : Int) := by omega
   obtain ⟨ad, rfl, hadb, hcell⟩ := (hR.chg hch hA).rec_at Slt.ent (fun _ => rfl) hjl
   obtain ⟨s1, s2, s3⟩ := ST.out j hjl
   have hstep := Lib.hid (lmSubs_take (M := s.M) hjl)
   have hwj : wrap64 ((j : Int) + 1) = (j : Int) + 1 := by unfold wrap64; omega
   obtain ⟨x, hx⟩ : ∃ x, L[j] = x := ⟨_, rfl⟩
   rw [hx] at hcell s1 hstep
   replace hcell := Lib.hid hcell
   have e1 := Blk.new wr 101 x.entA
   have hb1 : Below wr.heap.size wr (wr.alloc (.cells x.entA 101)) := below_alloc (Below.refl _ _) _
   have hW2 := keepOb_ok.call hW hb1
   have hX1 := fun y (hy : X1 y) => keepOb_ok.lt hW hy
   replace hW := Lib.hid hW
   go_upto_region 3 with (with_reducible refine wpList_load_entR rfl (.tmp 10) rfl (ad.add (j * 14)) rfl x hcell.out ?_)
   change Code.wp _ _ _ _ (wr.alloc (.cells x.entA 101))
   generalize wr.alloc (.cells x.entA 101) = w2 at *
   have c9 : w2.drew.cell? ⟨wr.heap.size, 9, none⟩ = some (.int .i64 x.bk) := e1.cell 9
   have cg : w2.drew.cell? ⟨k.g, 2, none⟩ = some (ptr0 k.gl) := (keep_blk hW2).1.cell 2
   have hd : Below w2.heap.size w2 w2.drew := (Below.refl _ _).drew
   have AD := Lib.hid (keep_add (keepOb_ok.call hW2 hd) (-1) s1 s2 s3)
   have hsz : wr.heap.size + 1 ≤ w2.heap.size := by have := e1.lt; omega
   have hYq : ¬ X1 wr.heap.size := fun e => by have := hX1 _ e; omega
   have FIN := Lib.hid fun (w3 : World) (hT : (keepOb k r { s with M := lmAdd (lmSubs s.M (L.take j)) x.bk (-1) }).To w2.drew w3 X1) => show ∃ X2, keepOb k r { s with M := lmSubs s.M (L.take (j + 1)) } w3 X2 ∧ Chg X w w3 ∧ ∀ y, X2 y → X y ∨ w.heap.size ≤ y from by
    obtain ⟨X2, k1, k2, k3⟩ := hT
    rw [← hstep.out] at k1
    have hsz2 := hch.size
    have kk : Chg X w w2 := hch.trans (Chg.of_below (F := X) hb1) (fun _ _ h => h)
    refine ⟨X2, k1, kk.trans (k2 : Chg X1 w2 w3) (fun y hy e => by rcases hn y e with h | h <;> first | exact h | omega), fun y hy => ?_⟩
    rcases k3 y hy with e | e
    · exact hn y e
    · exact .inr (by have e' : w2.heap.size ≤ y := e; omega)
   clear hW2 e1 hb1 hX1 hW hch hn hstep
   refine wp_region_held_drew (S := fun W => W.cell? ⟨wr.heap.size, 9, none⟩ = some (.int .i64 x.bk) ∧ W.cell? ⟨k.g, 2, none⟩ = some (ptr0 k.gl)) (by kernel_rfl) ⟨c9, cg⟩ (fun hHeld => ?_)
   generalize w2.drew = wd at *
   refine' tk 0 rfl rfl ?_ ?_; rotate_left; · ((intro w hSw; (try dsimp only at hSw); go_simp) <;> with_reducible rfl); try go_frame
   refine' tk 1 rfl rfl ?_ ?_; rotate_left; · ((intro w hSw; (try dsimp only at hSw); go_simp) <;> with_reducible rfl); try go_frame
   refine' tk 2 rfl rfl ?_ ?_; rotate_left; · ((intro w hSw; (try dsimp only at hSw); go_simp) <;> with_reducible rfl); try go_frame
   refine' tk 3 rfl rfl ?_ ?_; rotate_left; · ((intro w hSw; (try dsimp only at hSw); go_simp) <;> with_reducible rfl); try go_frame
   refine' tk 4 rfl rfl ?_ ?_; rotate_left; · ((intro w hSw; (try dsimp only at hSw); go_simp) <;> with_reducible rfl); try go_frame
   refine' tk 5 rfl rfl ?_ ?_; rotate_left; · ((intro w hSw; (try dsimp only at hSw); go_simp) <;> with_reducible rfl); try go_frame
   refine wpAnyH_ready (rs := [6]) (by kernel_rfl) (by simp) ?_
   refine consH rfl (fun K hK => ?_) AllReadyH.nil
   go_simp
   (go_at_call 107; (with_reducible refine AD.out.mono ?_))
   rintro e w3 ⟨rfl, hT⟩
   refine hK.out _ _ ⟨(cell_chg (to_chg hT) (block_lt_of_cell hHeld.1) hYq).trans hHeld.1, by obtain ⟨X2, k1, -, -⟩ := hT; exact (keep_blk k1).1.cell 2⟩ (fun hHeld => ?_)
   clear hK K
   try go_frame
   refine wpAnyH_done (by kernel_rfl) ?_ _
   obtain ⟨X2, f1, f2, f3⟩ := FIN.out w3 hT
   replace f1 := Lib.hid f1
   replace f2 := Lib.hid f2
   replace f3 := Lib.hid f3
   clear hHeld hT FIN
   go_wp2_with fail
   go_roundw
   case rel => exact ⟨j + 1, X2, by omega, by go_num, f1.out, f2.out, f3.out⟩
   case measure => simp [intOf]; omega
  ·
   obtain rfl : j = L.length := by omega
   have hji : ¬ (L.length : Int) < (L.length : Int) := by omega
   rw [List.take_length] at hW
   replace hW := Lib.hid hW
   replace hn := Lib.hid hn
   go_wp2_with fail
   go_end0
   exact ⟨rfl, X1, hW.out, hch, hn.out⟩
end
structure DKPtr where
 g : Nat
 gb : Bool → Nat
section
variable {w w' : World} {X F : Nat → Prop} {k : DKPtr} {r : KRule} {s : KSt} {g p n : Nat} {tr : TRule} {S : Nat → TSt} {M : LM}
end
@[reducible] def KrAt (rt : Nat) (r : KRule) (W : World) : Prop := W.cell? ⟨rt, 0, none⟩ = some (.bool r.nw) ∧ W.cell? ⟨rt, 1, none⟩ = some (.int .i64 r.ns) ∧ W.cell? ⟨rt, 2, none⟩ = some (.int .i64 r.ng) ∧ W.cell? ⟨rt, 3, none⟩ = some (.bool r.ww) ∧ W.cell? ⟨rt, 4, none⟩ = some (.int .i64 r.ws) ∧ W.cell? ⟨rt, 5, none⟩ = some (.int .i64 r.wg) ∧ W.cell? ⟨rt, 6, none⟩ = some (.int .u64 r.ka) ∧ W.cell? ⟨rt, 7, none⟩ = some (.int .u64 r.kb) ∧ W.cell? ⟨rt, 8, none⟩ = some (.int .i64 r.np) ∧ W.cell? ⟨rt, 9, none⟩ = some (.int .i64 r.a) ∧ W.cell? ⟨rt, 10, none⟩ = some (.int .i64 r.b) ∧ W.cell? ⟨rt, 11, none⟩ = some (.int .i64 r.c) ∧ W.cell? ⟨rt, 12, none⟩ = some (.int .i64 r.d) ∧ W.cell? ⟨rt, 13, none⟩ = some (.int .i64 r.G)
theorem KrAt.call {rt : Nat} {r : KRule} {W W' : World} (h : KrAt rt r W) (hb : Below W.heap.size W W') : KrAt rt r W' := by
 obtain ⟨h0, h1, h2, h3, h4, h5, h6, h7, h8, h9, h10, h11, h12, h13⟩ := h
 exact ⟨(hb.cell (block_lt_of_cell h0)).trans h0, (hb.cell (block_lt_of_cell h1)).trans h1, (hb.cell (block_lt_of_cell h2)).trans h2, (hb.cell (block_lt_of_cell h3)).trans h3, (hb.cell (block_lt_of_cell h4)).trans h4, (hb.cell (block_lt_of_cell h5)).trans h5, (hb.cell (block_lt_of_cell h6)).trans h6, (hb.cell (block_lt_of_cell h7)).trans h7, (hb.cell (block_lt_of_cell h8)).trans h8, (hb.cell (block_lt_of_cell h9)).trans h9, (hb.cell (block_lt_of_cell h10)).trans h10, (hb.cell (block_lt_of_cell h11)).trans h11, (hb.cell (block_lt_of_cell h12)).trans h12, (hb.cell (block_lt_of_cell h13)).trans h13⟩
theorem KrAt.of {rt : Nat} {r : KRule} {W : World} {t : TypeId} (h : Blk W rt t r.cells.toArray) : KrAt rt r W := ⟨h.cell 0, h.cell 1, h.cell 2, h.cell 3, h.cell 4, h.cell 5, h.cell 6, h.cell 7, h.cell 8, h.cell 9, h.cell 10, h.cell 11, h.cell 12, h.cell 13⟩
def ksmall (r : KRule) : Bool := decide (r.ns ≤ 3) && decide (r.ws ≤ 3) && decide (r.np ≤ 4)
set_option maxRecDepth 100000 in
theorem ref33_tables (r : KRule) (wd : Bool) (sl gn : Int) (w : World) : Calls Tryz.prog 41 #[r.val, .agg #[.bool wd, .int .i64 sl, .int .i64 gn]] w fun e w' => e = .returned (.agg #[.bool wd, .int .i64 sl, .int .i64 gn, .int .u64 r.ka, .int .u64 r.kb, .int .i64 r.np, .int .i64 r.a, .int .i64 r.b, .int .i64 r.c, .int .i64 r.d, .int .i64 r.G]) ∧ Below w.heap.size w w' := by
 have B1 := (Blk.new w 32 r.cells.toArray).alloc (.cells #[.bool wd, .int .i64 sl, .int .i64 gn] 26)
 have hb0 : Below w.heap.size w ((w.alloc (.cells r.cells.toArray 32)).alloc (.cells #[.bool wd, .int .i64 sl, .int .i64 gn] 26)) := below_alloc (below_alloc (Below.refl _ _) _) _
 have B2 : Blk ((w.alloc (.cells r.cells.toArray 32)).alloc (.cells #[.bool wd, .int .i64 sl, .int .i64 gn] 26)) (w.alloc (.cells r.cells.toArray 32)).heap.size 26 #[.bool wd, .int .i64 sl, .int .i64 gn] := Blk.new _ _ _
 rw [World.size_alloc] at B2
 go_enter Tryz.func41, Tryz.ntmps41
 go_upto_region 1 with fail
 change Code.wp _ _ _ _ (((w.alloc (.cells r.cells.toArray 32)).alloc (.cells #[.bool wd, .int .i64 sl, .int .i64 gn] 26)).alloc (.cells #[.bool false, .int .i64 0, .int .i64 0, .int .u64 0, .int .u64 0, .int .i64 0, .int .i64 0, .int .i64 0, .int .i64 0, .int .i64 0, .int .i64 0] 95))
 have hsz : ((w.alloc (.cells r.cells.toArray 32)).alloc (.cells #[.bool wd, .int .i64 sl, .int .i64 gn] 26)).heap.size = w.heap.size + 1 + 1 := by rw [World.size_alloc, World.size_alloc]
 generalize (w.alloc (.cells r.cells.toArray 32)).alloc (.cells #[.bool wd, .int .i64 sl, .int .i64 gn] 26) = w1 at *
 obtain ⟨rk, hrk⟩ : ∃ r, w.heap.size = r := ⟨_, rfl⟩
 rw [hrk] at B1 B2 hb0 hsz
 try rw [hrk]
 have B3 := Blk.new w1 95 #[.bool false, .int .i64 0, .int .i64 0, .int .u64 0, .int .u64 0, .int .i64 0, .int .i64 0, .int .i64 0, .int .i64 0, .int .i64 0, .int .i64 0]
 have hb1 : Below w1.heap.size w1 (w1.alloc (.cells #[.bool false, .int .i64 0, .int .i64 0, .int .u64 0, .int .u64 0, .int .i64 0, .int .i64 0, .int .i64 0, .int .i64 0, .int .i64 0, .int .i64 0] 95)) := below_alloc (Below.refl _ _) _
 have l2 := B2.lt
 replace B1 := B1.call hb1
 replace B2 := B2.call hb1
 replace hb0 := below_call2 hb1 hb0 (by omega)
 generalize w1.alloc (.cells #[.bool false, .int .i64 0, .int .i64 0, .int .u64 0, .int .u64 0, .int .i64 0, .int .i64 0, .int .i64 0, .int .i64 0, .int .i64 0, .int .i64 0] 95) = w2 at *
 rw [hsz] at B3 l2
 have c8 : w2.cell? ⟨rk, 8, none⟩ = some (.int .i64 r.np) := B1.cell 8
 have c13 : w2.cell? ⟨rk, 13, none⟩ = some (.int .i64 r.G) := B1.cell 13
 have hlr := B3.lt
 clear hb1
 go_wp2_with (first
  | (with_reducible refine wpList_load_blk rfl 26 (.tmp 3) rfl (rk + 1) 0 rfl B2 [.bool wd, .int .i64 sl, .int .i64 gn] rfl _ Tryz.underlying26 rfl (by kernel_rfl) ?_)
  | (with_reducible refine wpList_load_blk rfl 28 (.tmp 6) rfl rk 6 rfl B1 [.int .u64 r.ka, .int .u64 r.kb] rfl _ Tryz.underlying28 rfl (by kernel_rfl) ?_)
  | (with_reducible refine wpList_load_blk rfl 30 (.tmp 10) rfl rk 9 rfl B1 [.int .i64 r.a, .int .i64 r.b, .int .i64 r.c, .int .i64 r.d] rfl _ Tryz.underlying30 rfl (by kernel_rfl) ?_)
  | (with_reducible refine wpList_store_blk rfl rfl 95 (.tmp 4) (.tmp 14) rfl (rk + 1 + 1) 0 rfl B3 [.bool wd, .int .i64 sl, .int .i64 gn, .int .u64 r.ka, .int .u64 r.kb, .int .i64 r.np, .int .i64 r.a, .int .i64 r.b, .int .i64 r.c, .int .i64 r.d, .int .i64 r.G] rfl (Nat.le_of_ble_eq_true (by kernel_rfl)) (by kernel_rfl) rfl ?_; intro w4 hB4 hc4 hz4))
 replace hb0 := below_chg hb0 hc4 (fun y hy e => by have e2 : y = rk + 1 + 1 := e; omega) (by omega)
 refine bodyPost_ret (v := .agg #[.bool wd, .int .i64 sl, .int .i64 gn, .int .u64 r.ka, .int .u64 r.kb, .int .i64 r.np, .int .i64 r.a, .int .i64 r.b, .int .i64 r.c, .int .i64 r.d, .int .i64 r.G]) (results_cell rfl rfl (loadVar_blk 95 hB4 [.bool wd, .int .i64 sl, .int .i64 gn, .int .u64 r.ka, .int .u64 r.kb, .int .i64 r.np, .int .i64 r.a, .int .i64 r.b, .int .i64 r.c, .int .i64 r.d, .int .i64 r.G] rfl _ Tryz.underlying95 rfl (by kernel_rfl))) rfl ?_
 exact ⟨rfl, by rw [hrk]; exact hb0⟩
theorem dkr_right1 (r : KRule) (w : World) : Calls Tryz.prog 40 #[.agg r.l1.toArray] w fun e w' => e = .returned (.bool (ruleOk r.r1)) ∧ Below w.heap.size w w' := ref20_right r.r1 w
theorem dkr_right2 (r : KRule) (w : World) : Calls Tryz.prog 40 #[.agg r.l2.toArray] w fun e w' => e = .returned (.bool (ruleOk r.r2)) ∧ Below w.heap.size w w' := ref20_right r.r2 w
set_option maxRecDepth 100000 in
set_option maxHeartbeats 8000000 in
theorem dkr_right_no (nw ww : Bool) (ns ng ws wg ka kb np a b c d G : Int) (h : nw = true ∨ ww = false) (w : World) : Calls Tryz.prog 13 #[.agg #[.bool nw, .int .i64 ns, .int .i64 ng, .bool ww, .int .i64 ws, .int .i64 wg, .int .u64 ka, .int .u64 kb, .int .i64 np, .int .i64 a, .int .i64 b, .int .i64 c, .int .i64 d, .int .i64 G]] w fun e w' => e = .returned (.bool false) ∧ Below w.heap.size w w' := by
 cases hn : nw
 ·
  obtain rfl : ww = false := by rcases h with h | h <;> simp_all
  subst hn
  have B1 := Blk.new w 32 #[.bool false, .int .i64 ns, .int .i64 ng, .bool false, .int .i64 ws, .int .i64 wg, .int .u64 ka, .int .u64 kb, .int .i64 np, .int .i64 a, .int .i64 b, .int .i64 c, .int .i64 d, .int .i64 G]
  have hb0 : Below w.heap.size w (w.alloc (.cells #[.bool false, .int .i64 ns, .int .i64 ng, .bool false, .int .i64 ws, .int .i64 wg, .int .u64 ka, .int .u64 kb, .int .i64 np, .int .i64 a, .int .i64 b, .int .i64 c, .int .i64 d, .int .i64 G] 32)) := below_alloc (Below.refl _ _) _
  go_enter Tryz.func13, Tryz.ntmps13
  go_upto_region 1 with fail
  change Code.wp _ _ _ _ (w.alloc (.cells #[.bool false, .int .i64 ns, .int .i64 ng, .bool false, .int .i64 ws, .int .i64 wg, .int .u64 ka, .int .u64 kb, .int .i64 np, .int .i64 a, .int .i64 b, .int .i64 c, .int .i64 d, .int .i64 G] 32))
  generalize w.alloc (.cells #[.bool false, .int .i64 ns, .int .i64 ng, .bool false, .int .i64 ws, .int .i64 wg, .int .u64 ka, .int .u64 kb, .int .i64 np, .int .i64 a, .int .i64 b, .int .i64 c, .int .i64 d, .int .i64 G] 32) = w1 at *
  obtain ⟨rk, hrk⟩ : ∃ r, w.heap.size = r := ⟨_, rfl⟩
  rw [hrk] at B1 hb0
  try rw [hrk]
  have hz := B1.lt
  have c0 : w1.cell? ⟨rk, 0, none⟩ = some (.bool false) := B1.cell 0
  have c1 : w1.cell? ⟨rk, 1, none⟩ = some (.int .i64 ns) := B1.cell 1
  have c2 : w1.cell? ⟨rk, 2, none⟩ = some (.int .i64 ng) := B1.cell 2
  have c3 : w1.cell? ⟨rk, 3, none⟩ = some (.bool false) := B1.cell 3
  have c4 : w1.cell? ⟨rk, 4, none⟩ = some (.int .i64 ws) := B1.cell 4
  have c5 : w1.cell? ⟨rk, 5, none⟩ = some (.int .i64 wg) := B1.cell 5
  have c6 : w1.cell? ⟨rk, 6, none⟩ = some (.int .u64 ka) := B1.cell 6
  have c7 : w1.cell? ⟨rk, 7, none⟩ = some (.int .u64 kb) := B1.cell 7
  have c8 : w1.cell? ⟨rk, 8, none⟩ = some (.int .i64 np) := B1.cell 8
  have c9 : w1.cell? ⟨rk, 9, none⟩ = some (.int .i64 a) := B1.cell 9
  have c10 : w1.cell? ⟨rk, 10, none⟩ = some (.int .i64 b) := B1.cell 10
  have c11 : w1.cell? ⟨rk, 11, none⟩ = some (.int .i64 c) := B1.cell 11
  have c12 : w1.cell? ⟨rk, 12, none⟩ = some (.int .i64 d) := B1.cell 12
  have c13 : w1.cell? ⟨rk, 13, none⟩ = some (.int .i64 G) := B1.cell 13
  go_wp2_with fail
  go_ret
  exact ⟨rfl, by (try rw [hrk]); exact hb0⟩
 ·
  subst hn
  clear h
  have B1 := Blk.new w 32 #[.bool true, .int .i64 ns, .int .i64 ng, .bool ww, .int .i64 ws, .int .i64 wg, .int .u64 ka, .int .u64 kb, .int .i64 np, .int .i64 a, .int .i64 b, .int .i64 c, .int .i64 d, .int .i64 G]
  have hb0 : Below w.heap.size w (w.alloc (.cells #[.bool true, .int .i64 ns, .int .i64 ng, .bool ww, .int .i64 ws, .int .i64 wg, .int .u64 ka, .int .u64 kb, .int .i64 np, .int .i64 a, .int .i64 b, .int .i64 c, .int .i64 d, .int .i64 G] 32)) := below_alloc (Below.refl _ _) _
  go_enter Tryz.func13, Tryz.ntmps13
  go_upto_region 1 with fail
  change Code.wp _ _ _ _ (w.alloc (.cells #[.bool true, .int .i64 ns, .int .i64 ng, .bool ww, .int .i64 ws, .int .i64 wg, .int .u64 ka, .int .u64 kb, .int .i64 np, .int .i64 a, .int .i64 b, .int .i64 c, .int .i64 d, .int .i64 G] 32))
  generalize w.alloc (.cells #[.bool true, .int .i64 ns, .int .i64 ng, .bool ww, .int .i64 ws, .int .i64 wg, .int .u64 ka, .int .u64 kb, .int .i64 np, .int .i64 a, .int .i64 b, .int .i64 c, .int .i64 d, .int .i64 G] 32) = w1 at *
  obtain ⟨rk, hrk⟩ : ∃ r, w.heap.size = r := ⟨_, rfl⟩
  rw [hrk] at B1 hb0
  try rw [hrk]
  have hz := B1.lt
  have c0 : w1.cell? ⟨rk, 0, none⟩ = some (.bool true) := B1.cell 0
  have c1 : w1.cell? ⟨rk, 1, none⟩ = some (.int .i64 ns) := B1.cell 1
  have c2 : w1.cell? ⟨rk, 2, none⟩ = some (.int .i64 ng) := B1.cell 2
  have c3 : w1.cell? ⟨rk, 3, none⟩ = some (.bool ww) := B1.cell 3
  have c4 : w1.cell? ⟨rk, 4, none⟩ = some (.int .i64 ws) := B1.cell 4
  have c5 : w1.cell? ⟨rk, 5, none⟩ = some (.int .i64 wg) := B1.cell 5
  have c6 : w1.cell? ⟨rk, 6, none⟩ = some (.int .u64 ka) := B1.cell 6
  have c7 : w1.cell? ⟨rk, 7, none⟩ = some (.int .u64 kb) := B1.cell 7
  have c8 : w1.cell? ⟨rk, 8, none⟩ = some (.int .i64 np) := B1.cell 8
  have c9 : w1.cell? ⟨rk, 9, none⟩ = some (.int .i64 a) := B1.cell 9
  have c10 : w1.cell? ⟨rk, 10, none⟩ = some (.int .i64 b) := B1.cell 10
  have c11 : w1.cell? ⟨rk, 11, none⟩ = some (.int .i64 c) := B1.cell 11
  have c12 : w1.cell? ⟨rk, 12, none⟩ = some (.int .i64 d) := B1.cell 12
  have c13 : w1.cell? ⟨rk, 13, none⟩ = some (.int .i64 G) := B1.cell 13
  go_wp2_with fail
  go_ret
  exact ⟨rfl, by (try rw [hrk]); exact hb0⟩
set_option maxRecDepth 100000 in
set_option maxHeartbeats 8000000 in
theorem dkr_right_yes (ns ng ws wg ka kb np a b c d G : Int) (o1 o2 : Bool) (w : World) (T1 : Hid (∀ W, Calls Tryz.prog 41 #[.agg #[.bool false, .int .i64 ns, .int .i64 ng, .bool true, .int .i64 ws, .int .i64 wg, .int .u64 ka, .int .u64 kb, .int .i64 np, .int .i64 a, .int .i64 b, .int .i64 c, .int .i64 d, .int .i64 G], .agg #[.bool false, .int .i64 ns, .int .i64 ng]] W fun e w' => e = .returned (.agg #[.bool false, .int .i64 ns, .int .i64 ng, .int .u64 ka, .int .u64 kb, .int .i64 np, .int .i64 a, .int .i64 b, .int .i64 c, .int .i64 d, .int .i64 G]) ∧ Below W.heap.size W w'))
  (T2 : Hid (∀ W, Calls Tryz.prog 41 #[.agg #[.bool false, .int .i64 ns, .int .i64 ng, .bool true, .int .i64 ws, .int .i64 wg, .int .u64 ka, .int .u64 kb, .int .i64 np, .int .i64 a, .int .i64 b, .int .i64 c, .int .i64 d, .int .i64 G], .agg #[.bool true, .int .i64 ws, .int .i64 wg]] W fun e w' => e = .returned (.agg #[.bool true, .int .i64 ws, .int .i64 wg, .int .u64 ka, .int .u64 kb, .int .i64 np, .int .i64 a, .int .i64 b, .int .i64 c, .int .i64 d, .int .i64 G]) ∧ Below W.heap.size W w'))
  (R1 : Hid (∀ W, Calls Tryz.prog 40 #[.agg #[.bool false, .int .i64 ns, .int .i64 ng, .int .u64 ka, .int .u64 kb, .int .i64 np, .int .i64 a, .int .i64 b, .int .i64 c, .int .i64 d, .int .i64 G]] W fun e w' => e = .returned (.bool o1) ∧ Below W.heap.size W w'))
  (R2 : Hid (∀ W, Calls Tryz.prog 40 #[.agg #[.bool true, .int .i64 ws, .int .i64 wg, .int .u64 ka, .int .u64 kb, .int .i64 np, .int .i64 a, .int .i64 b, .int .i64 c, .int .i64 d, .int .i64 G]] W fun e w' => e = .returned (.bool o2) ∧ Below W.heap.size W w')) :
  Calls Tryz.prog 13 #[.agg #[.bool false, .int .i64 ns, .int .i64 ng, .bool true, .int .i64 ws, .int .i64 wg, .int .u64 ka, .int .u64 kb, .int .i64 np, .int .i64 a, .int .i64 b, .int .i64 c, .int .i64 d, .int .i64 G]] w fun e w' => e = .returned (.bool (o1 && o2)) ∧ Below w.heap.size w w' := by
 have B1 := Blk.new w 32 #[.bool false, .int .i64 ns, .int .i64 ng, .bool true, .int .i64 ws, .int .i64 wg, .int .u64 ka, .int .u64 kb, .int .i64 np, .int .i64 a, .int .i64 b, .int .i64 c, .int .i64 d, .int .i64 G]
 have hb0 : Below w.heap.size w (w.alloc (.cells #[.bool false, .int .i64 ns, .int .i64 ng, .bool true, .int .i64 ws, .int .i64 wg, .int .u64 ka, .int .u64 kb, .int .i64 np, .int .i64 a, .int .i64 b, .int .i64 c, .int .i64 d, .int .i64 G] 32)) := below_alloc (Below.refl _ _) _
 go_enter Tryz.func13, Tryz.ntmps13
 go_upto_region 1 with fail
 change Code.wp _ _ _ _ (w.alloc (.cells #[.bool false, .int .i64 ns, .int .i64 ng, .bool true, .int .i64 ws, .int .i64 wg, .int .u64 ka, .int .u64 kb, .int .i64 np, .int .i64 a, .int .i64 b, .int .i64 c, .int .i64 d, .int .i64 G] 32))
 generalize w.alloc (.cells #[.bool false, .int .i64 ns, .int .i64 ng, .bool true, .int .i64 ws, .int .i64 wg, .int .u64 ka, .int .u64 kb, .int .i64 np, .int .i64 a, .int .i64 b, .int .i64 c, .int .i64 d, .int .i64 G] 32) = w1 at *
 obtain ⟨rk, hrk⟩ : ∃ r, w.heap.size = r := ⟨_, rfl⟩
 rw [hrk] at B1 hb0
 try rw [hrk]
 have hz := B1.lt
 have c0 : w1.cell? ⟨rk, 0, none⟩ = some (.bool false) := B1.cell 0
 have c1 : w1.cell? ⟨rk, 1, none⟩ = some (.int .i64 ns) := B1.cell 1
 have c2 : w1.cell? ⟨rk, 2, none⟩ = some (.int .i64 ng) := B1.cell 2
 have c3 : w1.cell? ⟨rk, 3, none⟩ = some (.bool true) := B1.cell 3
 have c4 : w1.cell? ⟨rk, 4, none⟩ = some (.int .i64 ws) := B1.cell 4
 have c5 : w1.cell? ⟨rk, 5, none⟩ = some (.int .i64 wg) := B1.cell 5
 have c6 : w1.cell? ⟨rk, 6, none⟩ = some (.int .u64 ka) := B1.cell 6
 have c7 : w1.cell? ⟨rk, 7, none⟩ = some (.int .u64 kb) := B1.cell 7
 have c8 : w1.cell? ⟨rk, 8, none⟩ = some (.int .i64 np) := B1.cell 8
 have c9 : w1.cell? ⟨rk, 9, none⟩ = some (.int .i64 a) := B1.cell 9
 have c10 : w1.cell? ⟨rk, 10, none⟩ = some (.int .i64 b) := B1.cell 10
 have c11 : w1.cell? ⟨rk, 11, none⟩ = some (.int .i64 c) := B1.cell 11
 have c12 : w1.cell? ⟨rk, 12, none⟩ = some (.int .i64 d) := B1.cell 12
 have c13 : w1.cell? ⟨rk, 13, none⟩ = some (.int .i64 G) := B1.cell 13
 have HB := Lib.hid fun W (hb : Below w1.heap.size w1 W) => B1.call hb
 cases o1
 ·
  go_wp2_with (first
   | (go_at_call 41; (with_reducible refine (T1.out _).mono ?_); rintro e w2 ⟨rfl, hb2⟩)
   | (go_at_call 40; (with_reducible refine (R1.out _).mono ?_); rintro e w3 ⟨rfl, hb3⟩))
  go_ret
  exact ⟨rfl, by (try rw [hrk]); exact below_call2 (below_chain hb3 hb2) hb0 (by omega)⟩
 ·
  cases o2
  ·
   go_wp2_with (first
    | (go_at_call 41; (with_reducible refine (T1.out _).mono ?_); rintro e w2 ⟨rfl, hb2⟩)
    | (go_at_call 40; (with_reducible refine (R1.out _).mono ?_); rintro e w3 ⟨rfl, hb3⟩; have hb3' := below_chain hb3 hb2; replace B1 := HB.out _ hb3'; clear c0 c1 c2 c3 c4 c5 c6 c7 c8 c9 c10 c11 c12 c13; have c0 : w3.cell? ⟨rk, 0, none⟩ = some (.bool false) := B1.cell 0; have c1 : w3.cell? ⟨rk, 1, none⟩ = some (.int .i64 ns) := B1.cell 1; have c2 : w3.cell? ⟨rk, 2, none⟩ = some (.int .i64 ng) := B1.cell 2; have c3 : w3.cell? ⟨rk, 3, none⟩ = some (.bool true) := B1.cell 3; have c4 : w3.cell? ⟨rk, 4, none⟩ = some (.int .i64 ws) := B1.cell 4; have c5 : w3.cell? ⟨rk, 5, none⟩ = some (.int .i64 wg) := B1.cell 5; have c6 : w3.cell? ⟨rk, 6, none⟩ = some (.int .u64 ka) := B1.cell 6; have c7 : w3.cell? ⟨rk, 7, none⟩ = some (.int .u64 kb) := B1.cell 7; have c8 : w3.cell? ⟨rk, 8, none⟩ = some (.int .i64 np) := B1.cell 8; have c9 : w3.cell? ⟨rk, 9, none⟩ = some (.int .i64 a) := B1.cell 9; have c10 : w3.cell? ⟨rk, 10, none⟩ = some (.int .i64 b) := B1.cell 10; have c11 : w3.cell? ⟨rk, 11, none⟩ = some (.int .i64 c) := B1.cell 11; have c12 : w3.cell? ⟨rk, 12, none⟩ = some (.int .i64 d) := B1.cell 12; have c13 : w3.cell? ⟨rk, 13, none⟩ = some (.int .i64 G) := B1.cell 13)
    | (go_at_call 41; (with_reducible refine (T2.out _).mono ?_); rintro e w4 ⟨rfl, hb4⟩)
    | (go_at_call 40; (with_reducible refine (R2.out _).mono ?_); rintro e w5 ⟨rfl, hb5⟩))
   go_ret
   exact ⟨rfl, by (try rw [hrk]); exact below_call2 (below_chain hb5 (below_chain hb4 hb3')) hb0 (by omega)⟩
  ·
   go_wp2_with (first
    | (go_at_call 41; (with_reducible refine (T1.out _).mono ?_); rintro e w2 ⟨rfl, hb2⟩)
    | (go_at_call 40; (with_reducible refine (R1.out _).mono ?_); rintro e w3 ⟨rfl, hb3⟩; have hb3' := below_chain hb3 hb2; replace B1 := HB.out _ hb3'; clear c0 c1 c2 c3 c4 c5 c6 c7 c8 c9 c10 c11 c12 c13; have c0 : w3.cell? ⟨rk, 0, none⟩ = some (.bool false) := B1.cell 0; have c1 : w3.cell? ⟨rk, 1, none⟩ = some (.int .i64 ns) := B1.cell 1; have c2 : w3.cell? ⟨rk, 2, none⟩ = some (.int .i64 ng) := B1.cell 2; have c3 : w3.cell? ⟨rk, 3, none⟩ = some (.bool true) := B1.cell 3; have c4 : w3.cell? ⟨rk, 4, none⟩ = some (.int .i64 ws) := B1.cell 4; have c5 : w3.cell? ⟨rk, 5, none⟩ = some (.int .i64 wg) := B1.cell 5; have c6 : w3.cell? ⟨rk, 6, none⟩ = some (.int .u64 ka) := B1.cell 6; have c7 : w3.cell? ⟨rk, 7, none⟩ = some (.int .u64 kb) := B1.cell 7; have c8 : w3.cell? ⟨rk, 8, none⟩ = some (.int .i64 np) := B1.cell 8; have c9 : w3.cell? ⟨rk, 9, none⟩ = some (.int .i64 a) := B1.cell 9; have c10 : w3.cell? ⟨rk, 10, none⟩ = some (.int .i64 b) := B1.cell 10; have c11 : w3.cell? ⟨rk, 11, none⟩ = some (.int .i64 c) := B1.cell 11; have c12 : w3.cell? ⟨rk, 12, none⟩ = some (.int .i64 d) := B1.cell 12; have c13 : w3.cell? ⟨rk, 13, none⟩ = some (.int .i64 G) := B1.cell 13)
    | (go_at_call 41; (with_reducible refine (T2.out _).mono ?_); rintro e w4 ⟨rfl, hb4⟩)
    | (go_at_call 40; (with_reducible refine (R2.out _).mono ?_); rintro e w5 ⟨rfl, hb5⟩))
   go_ret
   exact ⟨rfl, by (try rw [hrk]); exact below_call2 (below_chain hb5 (below_chain hb4 hb3')) hb0 (by omega)⟩
theorem dkeep_right (r : KRule) (w : World) : Calls Tryz.prog 13 #[r.val] w fun e w' => e = .returned (.bool (kruleOk r)) ∧ Below w.heap.size w w' := by
 have T1 := Lib.hid fun W => ref33_tables r r.nw r.ns r.ng W
 have T2 := Lib.hid fun W => ref33_tables r r.ww r.ws r.wg W
 have R1 := Lib.hid fun W => dkr_right1 r W
 have R2 := Lib.hid fun W => dkr_right2 r W
 have hfin : kruleOk r = (!r.nw && (r.ww && (ruleOk r.r1 && ruleOk r.r2))) := by
  unfold kruleOk
  cases r.nw <;> cases r.ww <;> cases ruleOk r.r1 <;> cases ruleOk r.r2 <;> rfl
 rw [hfin]
 generalize ruleOk r.r1 = o1 at *
 generalize ruleOk r.r2 = o2 at *
 clear hfin
 obtain ⟨nw, ns, ng, ww, ws, wg, ka, kb, np, a, b, c, d, G⟩ := r
 cases nw
 ·
  cases ww
  · exact dkr_right_no false false ns ng ws wg ka kb np a b c d G (.inr rfl) w
  · exact dkr_right_yes ns ng ws wg ka kb np a b c d G o1 o2 w T1 T2 R1 R2
 · exact dkr_right_no true ww ns ng ws wg ka kb np a b c d G (.inl rfl) w
set_option maxRecDepth 100000 in
theorem ref33_small (r : KRule) (w : World) : Calls Tryz.prog 16 #[r.val] w fun e w' => e = .returned (.bool (ksmall r)) ∧ Below w.heap.size w w' := by
 have B1 := KrAt.of (Blk.new w 32 r.cells.toArray)
 have hb0 : Below w.heap.size w (w.alloc (.cells r.cells.toArray 32)) := below_alloc (Below.refl _ _) _
 unfold ksmall
 obtain ⟨z1, h1⟩ : ∃ z, decide (r.ns ≤ 3) = z := ⟨_, rfl⟩
 obtain ⟨z2, h2⟩ : ∃ z, decide (r.ws ≤ 3) = z := ⟨_, rfl⟩
 obtain ⟨z3, h3⟩ : ∃ z, decide (r.np ≤ 4) = z := ⟨_, rfl⟩
 rw [h1, h2, h3]
 go_enter Tryz.func16, Tryz.ntmps16
 go_upto_region 1 with fail
 change Code.wp _ _ _ _ (w.alloc (.cells r.cells.toArray 32))
 generalize w.alloc (.cells r.cells.toArray 32) = w1 at *
 obtain ⟨rk, hrk⟩ : ∃ r, w.heap.size = r := ⟨_, rfl⟩
 rw [hrk] at B1 hb0
 try rw [hrk]
 obtain ⟨c0, c1, c2, c3, c4, c5, c6, c7, c8, c9, c10, c11, c12, c13⟩ := B1
 clear c0 c2 c3 c5 c6 c7 c9 c10 c11 c12 c13
 cases z1 <;> cases z2 <;> cases z3 <;> (go_wp2_with fail; go_ret; exact ⟨rfl, by rw [hrk]; exact hb0⟩)
structure PCfg where
 v : Bool
 hi : Nat
 lo : Nat
 port : Int
 sf : Bool
 fb : Bool
 inst : Int
 r : KRule
 pk : Int
 ps : Int
 ri : Int
 fa : Int
abbrev PCfg.cells (c : PCfg) : List Value := [.bool c.v, .int .u64 c.hi, .int .u64 c.lo, .int .i64 c.port, .bool c.sf, .bool c.fb, .int .i64 c.inst, .bool c.r.nw, .int .i64 c.r.ns, .int .i64 c.r.ng, .bool c.r.ww, .int .i64 c.r.ws, .int .i64 c.r.wg, .int .u64 c.r.ka, .int .u64 c.r.kb, .int .i64 c.r.np, .int .i64 c.r.a, .int .i64 c.r.b, .int .i64 c.r.c, .int .i64 c.r.d, .int .i64 c.r.G, .int .i64 c.pk, .int .i64 c.ps, .int .i64 c.ri, .int .i64 c.fa]
abbrev PCfg.val (c : PCfg) : Value := .agg c.cells.toArray
def wiOk (n m : Int) : Bool := decide (0 ≤ n) && decide (n ≤ m)
def heOk (a b : Int) : Bool := ((decide (1 ≤ a) && decide (a ≤ 100)) && decide (1 ≤ b)) && decide (b ≤ 100)
def pcfgOk (c : PCfg) : Bool := ((((adrOk c.v c.hi c.lo && wiOk c.port 65535) && wiOk c.inst 255) && kruleOk c.r) && polOk c.pk c.ps) && heOk c.ri c.fa
def psmall (c : PCfg) : Bool := ksmall c.r && decide (c.ps ≤ 251)
@[reducible] def CfgAt (q : Nat) (c : PCfg) (W : World) : Prop := W.cell? ⟨q, 0, none⟩ = some (.bool c.v) ∧ W.cell? ⟨q, 1, none⟩ = some (.int .u64 c.hi) ∧ W.cell? ⟨q, 2, none⟩ = some (.int .u64 c.lo) ∧ W.cell? ⟨q, 3, none⟩ = some (.int .i64 c.port) ∧ W.cell? ⟨q, 4, none⟩ = some (.bool c.sf) ∧ W.cell? ⟨q, 5, none⟩ = some (.bool c.fb) ∧ W.cell? ⟨q, 6, none⟩ = some (.int .i64 c.inst) ∧ W.cell? ⟨q, 7, none⟩ = some (.bool c.r.nw) ∧ W.cell? ⟨q, 8, none⟩ = some (.int .i64 c.r.ns) ∧ W.cell? ⟨q, 9, none⟩ = some (.int .i64 c.r.ng) ∧ W.cell? ⟨q, 10, none⟩ = some (.bool c.r.ww) ∧ W.cell? ⟨q, 11, none⟩ = some (.int .i64 c.r.ws) ∧ W.cell? ⟨q, 12, none⟩ = some (.int .i64 c.r.wg) ∧ W.cell? ⟨q, 13, none⟩ = some (.int .u64 c.r.ka) ∧ W.cell? ⟨q, 14, none⟩ = some (.int .u64 c.r.kb) ∧ W.cell? ⟨q, 15, none⟩ = some (.int .i64 c.r.np) ∧ W.cell? ⟨q, 16, none⟩ = some (.int .i64 c.r.a) ∧ W.cell? ⟨q, 17, none⟩ = some (.int .i64 c.r.b) ∧ W.cell? ⟨q, 18, none⟩ = some (.int .i64 c.r.c) ∧ W.cell? ⟨q, 19, none⟩ = some (.int .i64 c.r.d) ∧ W.cell? ⟨q, 20, none⟩ = some (.int .i64 c.r.G) ∧ W.cell? ⟨q, 21, none⟩ = some (.int .i64 c.pk) ∧ W.cell? ⟨q, 22, none⟩ = some (.int .i64 c.ps) ∧ W.cell? ⟨q, 23, none⟩ = some (.int .i64 c.ri) ∧ W.cell? ⟨q, 24, none⟩ = some (.int .i64 c.fa)
theorem CfgAt.of {q : Nat} {c : PCfg} {W : World} {t : TypeId} (h : Blk W q t c.cells.toArray) : CfgAt q c W := ⟨h.cell 0, h.cell 1, h.cell 2, h.cell 3, h.cell 4, h.cell 5, h.cell 6, h.cell 7, h.cell 8, h.cell 9, h.cell 10, h.cell 11, h.cell 12, h.cell 13, h.cell 14, h.cell 15, h.cell 16, h.cell 17, h.cell 18, h.cell 19, h.cell 20, h.cell 21, h.cell 22, h.cell 23, h.cell 24⟩
theorem plane_within (x m : Int) (w : World) : Calls Tryz.prog 44 #[.int .i64 x, .int .i64 m] w fun e w' => e = .returned (.bool (wiOk x m)) ∧ w = w' := by
 unfold wiOk
 obtain ⟨z1, h1⟩ : ∃ z, decide (0 ≤ x) = z := ⟨_, rfl⟩
 obtain ⟨z2, h2⟩ : ∃ z, decide (x ≤ m) = z := ⟨_, rfl⟩
 rw [h1, h2]
 go_enter Tryz.func44, Tryz.ntmps44
 cases z1 <;> cases z2 <;> (go_wp2_with fail; go_ret; exact ⟨rfl, rfl⟩)
theorem health_within (x a m : Int) (w : World) : Calls Tryz.prog 77 #[.int .i64 x, .int .i64 a, .int .i64 m] w fun e w' => e = .returned (.bool (decide (a ≤ x) && decide (x ≤ m))) ∧ w = w' := by
 obtain ⟨z1, h1⟩ : ∃ z, decide (a ≤ x) = z := ⟨_, rfl⟩
 obtain ⟨z2, h2⟩ : ∃ z, decide (x ≤ m) = z := ⟨_, rfl⟩
 rw [h1, h2]
 go_enter Tryz.func77, Tryz.ntmps77
 cases z1 <;> cases z2 <;> (go_wp2_with fail; go_ret; exact ⟨rfl, rfl⟩)
theorem health_right (a b : Int) (w : World) : Calls Tryz.prog 47 #[.agg #[.int .i64 a, .int .i64 b]] w fun e w' => e = .returned (.bool (heOk a b)) ∧ Below w.heap.size w w' := by
 have W1 := Lib.hid fun W => health_within a 1 100 W
 have W2 := Lib.hid fun W => health_within b 1 100 W
 have hfin : heOk a b = ((decide (1 ≤ a) && decide (a ≤ 100)) && (decide (1 ≤ b) && decide (b ≤ 100))) := by
  unfold heOk
  rw [Bool.and_assoc (decide (1 ≤ a) && decide (a ≤ 100))]
 rw [hfin]
 obtain ⟨z1, h1⟩ : ∃ z, (decide (1 ≤ a) && decide (a ≤ 100)) = z := ⟨_, rfl⟩
 obtain ⟨z2, h2⟩ : ∃ z, (decide (1 ≤ b) && decide (b ≤ 100)) = z := ⟨_, rfl⟩
 rw [h1] at W1 ⊢
 rw [h2] at W2 ⊢
 clear h1 h2 hfin
 have hb0 : Below w.heap.size w (w.alloc (.cells #[.int .i64 a, .int .i64 b] 47)) := below_alloc (Below.refl _ _) _
 cases z1
 ·
  go_enter Tryz.func47, Tryz.ntmps47
  go_wp2_with (go_at_call 77; (with_reducible refine (W1.out _).mono ?_); rintro e w2 ⟨rfl, rfl⟩)
  go_ret
  exact ⟨rfl, hb0⟩
 ·
  go_enter Tryz.func47, Tryz.ntmps47
  go_wp2_with (first
   | (go_at_call 77; (with_reducible refine (W1.out _).mono ?_); rintro e w2 ⟨rfl, rfl⟩)
   | (go_at_call 77; (with_reducible refine (W2.out _).mono ?_); rintro e w2 ⟨rfl, rfl⟩))
  go_ret
  exact ⟨rfl, hb0⟩
theorem refhealth_right (a b : Int) (w : World) : Calls Tryz.prog 15 #[.agg #[.int .i64 a, .int .i64 b]] w fun e w' => e = .returned (.bool (heOk a b)) ∧ Below w.heap.size w w' := by
 unfold heOk
 obtain ⟨z1, h1⟩ : ∃ z, decide (1 ≤ a) = z := ⟨_, rfl⟩
 obtain ⟨z2, h2⟩ : ∃ z, decide (a ≤ 100) = z := ⟨_, rfl⟩
 obtain ⟨z3, h3⟩ : ∃ z, decide (1 ≤ b) = z := ⟨_, rfl⟩
 obtain ⟨z4, h4⟩ : ∃ z, decide (b ≤ 100) = z := ⟨_, rfl⟩
 rw [h1, h2, h3, h4]
 have hb0 : Below w.heap.size w (w.alloc (.cells #[.int .i64 a, .int .i64 b] 36)) := below_alloc (Below.refl _ _) _
 have hk : z1 = false ∨ (z1 = true ∧ z2 = false) ∨ (z1 = true ∧ z2 = true ∧ z3 = false) ∨ (z1 = true ∧ z2 = true ∧ z3 = true) := by
  cases z1 <;> cases z2 <;> cases z3 <;> simp
 rcases hk with rfl | ⟨rfl, rfl⟩ | ⟨rfl, rfl, rfl⟩ | ⟨rfl, rfl, rfl⟩
 all_goals
  go_enter Tryz.func15, Tryz.ntmps15
  go_wp2_with fail
  go_ret
  exact ⟨by simp, hb0⟩
set_option maxRecDepth 100000 in
set_option maxHeartbeats 16000000 in
theorem plane_right (c : PCfg) (w : World) : Calls Tryz.prog 18 #[c.val] w fun e w' => e = .returned (.bool (pcfgOk c)) ∧ Below w.heap.size w w' := by
 have AR := Lib.hid fun W => addr_right c.v c.hi c.lo W
 have W1 := Lib.hid fun W => plane_within c.port 65535 W
 have W2 := Lib.hid fun W => plane_within c.inst 255 W
 have KR := Lib.hid fun W => keep_right c.r W
 have PR := Lib.hid fun W => polright_any c.pk c.ps W
 have HR := Lib.hid fun W => health_right c.ri c.fa W
 unfold pcfgOk
 obtain ⟨o1, ho1⟩ : ∃ z, adrOk c.v c.hi c.lo = z := ⟨_, rfl⟩
 rw [ho1] at AR ⊢
 obtain ⟨o2, ho2⟩ : ∃ z, wiOk c.port 65535 = z := ⟨_, rfl⟩
 rw [ho2] at W1 ⊢
 obtain ⟨o3, ho3⟩ : ∃ z, wiOk c.inst 255 = z := ⟨_, rfl⟩
 rw [ho3] at W2 ⊢
 obtain ⟨o4, ho4⟩ : ∃ z, kruleOk c.r = z := ⟨_, rfl⟩
 rw [ho4] at KR ⊢
 obtain ⟨o5, ho5⟩ : ∃ z, polOk c.pk c.ps = z := ⟨_, rfl⟩
 rw [ho5] at PR ⊢
 obtain ⟨o6, ho6⟩ : ∃ z, heOk c.ri c.fa = z := ⟨_, rfl⟩
 rw [ho6] at HR ⊢
 clear ho1 ho2 ho3 ho4 ho5 ho6
 have hb0 : Below w.heap.size w (w.alloc (.cells c.cells.toArray 49)) := below_alloc (Below.refl _ _) _
 have B0 := Blk.new w 49 c.cells.toArray
 have RC := Lib.hid fun W (hb : Below (w.alloc (.cells c.cells.toArray 49)).heap.size (w.alloc (.cells c.cells.toArray 49)) W) => CfgAt.of (B0.call hb)
 obtain ⟨c0, c1, c2, c3, c4, c5, c6, c7, c8, c9, c10, c11, c12, c13, c14, c15, c16, c17, c18, c19, c20, c21, c22, c23, c24⟩ := RC.out _ (Below.refl _ _)
 clear B0
 have hk : (o1 = false) ∨ (o1 = true ∧ o2 = false) ∨ (o1 = true ∧ o2 = true ∧ o3 = false) ∨ (o1 = true ∧ o2 = true ∧ o3 = true ∧ o4 = false) ∨ (o1 = true ∧ o2 = true ∧ o3 = true ∧ o4 = true ∧ o5 = false) ∨ (o1 = true ∧ o2 = true ∧ o3 = true ∧ o4 = true ∧ o5 = true) := by
  clear RC c0 c1 c2 c3 c4 c5 c6 c7 c8 c9 c10 c11 c12 c13 c14 c15 c16 c17 c18 c19 c20 c21 c22 c23 c24 hb0
  cases o1
  · simp
  cases o2
  · simp
  cases o3
  · simp
  cases o4
  · simp
  cases o5
  · simp
  simp
 rcases hk with rfl | ⟨rfl, rfl⟩ | ⟨rfl, rfl, rfl⟩ | ⟨rfl, rfl, rfl, rfl⟩ | ⟨rfl, rfl, rfl, rfl, rfl⟩ | ⟨rfl, rfl, rfl, rfl, rfl⟩
 all_goals
  go_enter Tryz.func18, Tryz.ntmps18
  go_upto_region 1 with fail
  change Code.wp _ _ _ _ (w.alloc (.cells c.cells.toArray 49))
  generalize (w.alloc (.cells c.cells.toArray 49)) = w1 at *
  go_wp2_with (first
   | (go_at_call 43; (with_reducible refine (AR.out _).mono ?_); rintro e w2 ⟨rfl, hbw2⟩; clear c0 c1 c2 c3 c4 c5 c6 c7 c8 c9 c10 c11 c12 c13 c14 c15 c16 c17 c18 c19 c20 c21 c22 c23 c24; obtain ⟨c0, c1, c2, c3, c4, c5, c6, c7, c8, c9, c10, c11, c12, c13, c14, c15, c16, c17, c18, c19, c20, c21, c22, c23, c24⟩ := RC.out w2 (by repeat (first | exact Below.refl _ _ | assumption | refine below_chain (by assumption) ?_)))
   | (go_at_call 44; (with_reducible refine (W1.out _).mono ?_); rintro e w9 ⟨rfl, rfl⟩)
   | (go_at_call 44; (with_reducible refine (W2.out _).mono ?_); rintro e w9 ⟨rfl, rfl⟩)
   | (go_at_call 45; (with_reducible refine (KR.out _).mono ?_); rintro e w3 ⟨rfl, hbw3⟩; clear c0 c1 c2 c3 c4 c5 c6 c7 c8 c9 c10 c11 c12 c13 c14 c15 c16 c17 c18 c19 c20 c21 c22 c23 c24; obtain ⟨c0, c1, c2, c3, c4, c5, c6, c7, c8, c9, c10, c11, c12, c13, c14, c15, c16, c17, c18, c19, c20, c21, c22, c23, c24⟩ := RC.out w3 (by repeat (first | exact Below.refl _ _ | assumption | refine below_chain (by assumption) ?_)))
   | (go_at_call 46; (with_reducible refine (PR.out _).mono ?_); rintro e w4 ⟨rfl, hbw4⟩; clear c0 c1 c2 c3 c4 c5 c6 c7 c8 c9 c10 c11 c12 c13 c14 c15 c16 c17 c18 c19 c20 c21 c22 c23 c24; obtain ⟨c0, c1, c2, c3, c4, c5, c6, c7, c8, c9, c10, c11, c12, c13, c14, c15, c16, c17, c18, c19, c20, c21, c22, c23, c24⟩ := RC.out w4 (by repeat (first | exact Below.refl _ _ | assumption | refine below_chain (by assumption) ?_)))
   | (go_at_call 47; (with_reducible refine (HR.out _).mono ?_); rintro e w5 ⟨rfl, hbw5⟩; clear c0 c1 c2 c3 c4 c5 c6 c7 c8 c9 c10 c11 c12 c13 c14 c15 c16 c17 c18 c19 c20 c21 c22 c23 c24; obtain ⟨c0, c1, c2, c3, c4, c5, c6, c7, c8, c9, c10, c11, c12, c13, c14, c15, c16, c17, c18, c19, c20, c21, c22, c23, c24⟩ := RC.out w5 (by repeat (first | exact Below.refl _ _ | assumption | refine below_chain (by assumption) ?_))))
  go_ret
  exact ⟨by simp, (by repeat (first | exact Below.refl _ _ | assumption | refine below_alloc ?_ _ | refine below_chain (by assumption) ?_ | refine below_call2 (by assumption) ?_ (by first | omega | (simp; done) | (simp; omega) | (simp [World.setCell]; omega)) | refine below_drewN ?_ _ | refine Below.drew ?_ | refine Below.alloc ?_ (by first | omega | (simp; done) | (simp; omega) | (simp [World.setCell]; omega)) _ | refine Below.setCell ?_ (by first | omega | (simp; done) | (simp; omega) | (simp [World.setCell]; omega)) _))⟩
set_option maxRecDepth 100000 in
set_option maxHeartbeats 16000000 in
theorem refplane_right (c : PCfg) (w : World) : Calls Tryz.prog 4 #[c.val] w fun e w' => e = .returned (.bool (pcfgOk c)) ∧ Below w.heap.size w w' := by
 have AR := Lib.hid fun W => refaddr_right c.v c.hi c.lo W
 have KR := Lib.hid fun W => dkeep_right c.r W
 have PR := Lib.hid fun W => refpolright_any c.pk c.ps W
 have HR := Lib.hid fun W => refhealth_right c.ri c.fa W
 have hfin : pcfgOk c = ((((((adrOk c.v c.hi c.lo && decide (0 ≤ c.port)) && decide (c.port ≤ 65535)) && decide (0 ≤ c.inst)) && decide (c.inst ≤ 255)) && kruleOk c.r) && polOk c.pk c.ps && heOk c.ri c.fa) := by
  unfold pcfgOk wiOk
  simp only [Bool.and_assoc]
 rw [hfin]
 clear hfin
 obtain ⟨o1, ho1⟩ : ∃ z, adrOk c.v c.hi c.lo = z := ⟨_, rfl⟩
 rw [ho1] at AR ⊢
 obtain ⟨o2, ho2⟩ : ∃ z, decide (0 ≤ c.port) = z := ⟨_, rfl⟩
 rw [ho2] at ⊢
 obtain ⟨o3, ho3⟩ : ∃ z, decide (c.port ≤ 65535) = z := ⟨_, rfl⟩
 rw [ho3] at ⊢
 obtain ⟨o4, ho4⟩ : ∃ z, decide (0 ≤ c.inst) = z := ⟨_, rfl⟩
 rw [ho4] at ⊢
 obtain ⟨o5, ho5⟩ : ∃ z, decide (c.inst ≤ 255) = z := ⟨_, rfl⟩
 rw [ho5] at ⊢
 obtain ⟨o6, ho6⟩ : ∃ z, kruleOk c.r = z := ⟨_, rfl⟩
 rw [ho6] at KR ⊢
 obtain ⟨o7, ho7⟩ : ∃ z, polOk c.pk c.ps = z := ⟨_, rfl⟩
 rw [ho7] at PR ⊢
 obtain ⟨o8, ho8⟩ : ∃ z, heOk c.ri c.fa = z := ⟨_, rfl⟩
 rw [ho8] at HR ⊢
 clear ho1 ho6 ho7 ho8
 have hb0 : Below w.heap.size w (w.alloc (.cells c.cells.toArray 38)) := below_alloc (Below.refl _ _) _
 have B0 := Blk.new w 38 c.cells.toArray
 have RC := Lib.hid fun W (hb : Below (w.alloc (.cells c.cells.toArray 38)).heap.size (w.alloc (.cells c.cells.toArray 38)) W) => CfgAt.of (B0.call hb)
 obtain ⟨c0, c1, c2, c3, c4, c5, c6, c7, c8, c9, c10, c11, c12, c13, c14, c15, c16, c17, c18, c19, c20, c21, c22, c23, c24⟩ := RC.out _ (Below.refl _ _)
 clear B0
 have hk : (o1 = false) ∨ (o1 = true ∧ o2 = false) ∨ (o1 = true ∧ o2 = true ∧ o3 = false) ∨ (o1 = true ∧ o2 = true ∧ o3 = true ∧ o4 = false) ∨ (o1 = true ∧ o2 = true ∧ o3 = true ∧ o4 = true ∧ o5 = false) ∨ (o1 = true ∧ o2 = true ∧ o3 = true ∧ o4 = true ∧ o5 = true ∧ o6 = false) ∨ (o1 = true ∧ o2 = true ∧ o3 = true ∧ o4 = true ∧ o5 = true ∧ o6 = true ∧ o7 = false) ∨ (o1 = true ∧ o2 = true ∧ o3 = true ∧ o4 = true ∧ o5 = true ∧ o6 = true ∧ o7 = true) := by
  clear RC c0 c1 c2 c3 c4 c5 c6 c7 c8 c9 c10 c11 c12 c13 c14 c15 c16 c17 c18 c19 c20 c21 c22 c23 c24 hb0
  cases o1
  · simp
  cases o2
  · simp
  cases o3
  · simp
  cases o4
  · simp
  cases o5
  · simp
  cases o6
  · simp
  cases o7
  · simp
  simp
 rcases hk with rfl | ⟨rfl, rfl⟩ | ⟨rfl, rfl, rfl⟩ | ⟨rfl, rfl, rfl, rfl⟩ | ⟨rfl, rfl, rfl, rfl, rfl⟩ | ⟨rfl, rfl, rfl, rfl, rfl, rfl⟩ | ⟨rfl, rfl, rfl, rfl, rfl, rfl, rfl⟩ | ⟨rfl, rfl, rfl, rfl, rfl, rfl, rfl⟩
 all_goals
  go_enter Tryz.func4, Tryz.ntmps4
  go_upto_region 1 with fail
  change Code.wp _ _ _ _ (w.alloc (.cells c.cells.toArray 38))
  generalize (w.alloc (.cells c.cells.toArray 38)) = w1 at *
  go_wp2_with (first
   | (go_at_call 12; (with_reducible refine (AR.out _).mono ?_); rintro e w2 ⟨rfl, hbw2⟩; clear c0 c1 c2 c3 c4 c5 c6 c7 c8 c9 c10 c11 c12 c13 c14 c15 c16 c17 c18 c19 c20 c21 c22 c23 c24; obtain ⟨c0, c1, c2, c3, c4, c5, c6, c7, c8, c9, c10, c11, c12, c13, c14, c15, c16, c17, c18, c19, c20, c21, c22, c23, c24⟩ := RC.out w2 (by repeat (first | exact Below.refl _ _ | assumption | refine below_chain (by assumption) ?_)))
   | (go_at_call 13; (with_reducible refine (KR.out _).mono ?_); rintro e w3 ⟨rfl, hbw3⟩; clear c0 c1 c2 c3 c4 c5 c6 c7 c8 c9 c10 c11 c12 c13 c14 c15 c16 c17 c18 c19 c20 c21 c22 c23 c24; obtain ⟨c0, c1, c2, c3, c4, c5, c6, c7, c8, c9, c10, c11, c12, c13, c14, c15, c16, c17, c18, c19, c20, c21, c22, c23, c24⟩ := RC.out w3 (by repeat (first | exact Below.refl _ _ | assumption | refine below_chain (by assumption) ?_)))
   | (go_at_call 14; (with_reducible refine (PR.out _).mono ?_); rintro e w4 ⟨rfl, hbw4⟩; clear c0 c1 c2 c3 c4 c5 c6 c7 c8 c9 c10 c11 c12 c13 c14 c15 c16 c17 c18 c19 c20 c21 c22 c23 c24; obtain ⟨c0, c1, c2, c3, c4, c5, c6, c7, c8, c9, c10, c11, c12, c13, c14, c15, c16, c17, c18, c19, c20, c21, c22, c23, c24⟩ := RC.out w4 (by repeat (first | exact Below.refl _ _ | assumption | refine below_chain (by assumption) ?_)))
   | (go_at_call 15; (with_reducible refine (HR.out _).mono ?_); rintro e w5 ⟨rfl, hbw5⟩; clear c0 c1 c2 c3 c4 c5 c6 c7 c8 c9 c10 c11 c12 c13 c14 c15 c16 c17 c18 c19 c20 c21 c22 c23 c24; obtain ⟨c0, c1, c2, c3, c4, c5, c6, c7, c8, c9, c10, c11, c12, c13, c14, c15, c16, c17, c18, c19, c20, c21, c22, c23, c24⟩ := RC.out w5 (by repeat (first | exact Below.refl _ _ | assumption | refine below_chain (by assumption) ?_))))
  go_ret
  exact ⟨by simp, (by repeat (first | exact Below.refl _ _ | assumption | refine below_alloc ?_ _ | refine below_chain (by assumption) ?_ | refine below_call2 (by assumption) ?_ (by first | omega | (simp; done) | (simp; omega) | (simp [World.setCell]; omega)) | refine below_drewN ?_ _ | refine Below.drew ?_ | refine Below.alloc ?_ (by first | omega | (simp; done) | (simp; omega) | (simp [World.setCell]; omega)) _ | refine Below.setCell ?_ (by first | omega | (simp; done) | (simp; omega) | (simp [World.setCell]; omega)) _))⟩
set_option maxRecDepth 100000 in
set_option maxHeartbeats 16000000 in
theorem ref34_small (c : PCfg) (w : World) : Calls Tryz.prog 5 #[c.val] w fun e w' => e = .returned (.bool (psmall c)) ∧ Below w.heap.size w w' := by
 have SM := Lib.hid fun W => ref33_small c.r W
 unfold psmall
 obtain ⟨o1, ho1⟩ : ∃ z, ksmall c.r = z := ⟨_, rfl⟩
 rw [ho1] at SM ⊢
 obtain ⟨o2, ho2⟩ : ∃ z, decide (c.ps ≤ 251) = z := ⟨_, rfl⟩
 rw [ho2]
 clear ho1
 have hb0 : Below w.heap.size w (w.alloc (.cells c.cells.toArray 38)) := below_alloc (Below.refl _ _) _
 have B0 := Blk.new w 38 c.cells.toArray
 have RC := Lib.hid fun W (hb : Below (w.alloc (.cells c.cells.toArray 38)).heap.size (w.alloc (.cells c.cells.toArray 38)) W) => CfgAt.of (B0.call hb)
 obtain ⟨c0, c1, c2, c3, c4, c5, c6, c7, c8, c9, c10, c11, c12, c13, c14, c15, c16, c17, c18, c19, c20, c21, c22, c23, c24⟩ := RC.out _ (Below.refl _ _)
 clear B0
 cases o1
 all_goals
  go_enter Tryz.func5, Tryz.ntmps5
  go_upto_region 1 with fail
  change Code.wp _ _ _ _ (w.alloc (.cells c.cells.toArray 38))
  generalize (w.alloc (.cells c.cells.toArray 38)) = w1 at *
  go_wp2_with (go_at_call 16; (with_reducible refine (SM.out _).mono ?_); rintro e w2 ⟨rfl, hbw2⟩; clear c0 c1 c2 c3 c4 c5 c6 c7 c8 c9 c10 c11 c12 c13 c14 c15 c16 c17 c18 c19 c20 c21 c22 c23 c24; obtain ⟨c0, c1, c2, c3, c4, c5, c6, c7, c8, c9, c10, c11, c12, c13, c14, c15, c16, c17, c18, c19, c20, c21, c22, c23, c24⟩ := RC.out w2 (by repeat (first | exact Below.refl _ _ | assumption | refine below_chain (by assumption) ?_)))
  go_ret
  exact ⟨by simp, (by repeat (first | exact Below.refl _ _ | assumption | refine below_alloc ?_ _ | refine below_chain (by assumption) ?_ | refine below_call2 (by assumption) ?_ (by first | omega | (simp; done) | (simp; omega) | (simp [World.setCell]; omega)) | refine below_drewN ?_ _ | refine Below.drew ?_ | refine Below.alloc ?_ (by first | omega | (simp; done) | (simp; omega) | (simp [World.setCell]; omega)) _ | refine Below.setCell ?_ (by first | omega | (simp; done) | (simp; omega) | (simp [World.setCell]; omega)) _))⟩
set_option maxRecDepth 100000 in
set_option maxHeartbeats 16000000 in
theorem law38_of (c : PCfg) (w : World) : Calls Tryz.prog 8 #[c.val] w fun e w' => e = .returned c.val ∧ Below w.heap.size w w' := by
 have B1 := (Blk.new w 38 c.cells.toArray).alloc (.cells #[.bool false, .int .u64 0, .int .u64 0, .int .i64 0, .bool false, .bool false, .int .i64 0, .bool false, .int .i64 0, .int .i64 0, .bool false, .int .i64 0, .int .i64 0, .int .u64 0, .int .u64 0, .int .i64 0, .int .i64 0, .int .i64 0, .int .i64 0, .int .i64 0, .int .i64 0, .int .i64 0, .int .i64 0, .int .i64 0, .int .i64 0] 49)
 have B2 := Blk.new (w.alloc (.cells c.cells.toArray 38)) 49 #[.bool false, .int .u64 0, .int .u64 0, .int .i64 0, .bool false, .bool false, .int .i64 0, .bool false, .int .i64 0, .int .i64 0, .bool false, .int .i64 0, .int .i64 0, .int .u64 0, .int .u64 0, .int .i64 0, .int .i64 0, .int .i64 0, .int .i64 0, .int .i64 0, .int .i64 0, .int .i64 0, .int .i64 0, .int .i64 0, .int .i64 0]
 have hb0 : Below w.heap.size w ((w.alloc (.cells c.cells.toArray 38)).alloc (.cells #[.bool false, .int .u64 0, .int .u64 0, .int .i64 0, .bool false, .bool false, .int .i64 0, .bool false, .int .i64 0, .int .i64 0, .bool false, .int .i64 0, .int .i64 0, .int .u64 0, .int .u64 0, .int .i64 0, .int .i64 0, .int .i64 0, .int .i64 0, .int .i64 0, .int .i64 0, .int .i64 0, .int .i64 0, .int .i64 0, .int .i64 0] 49)) := below_alloc (below_alloc (Below.refl _ _) _) _
 rw [World.size_alloc] at B2
 go_enter Tryz.func8, Tryz.ntmps8
 go_upto_region 1 with fail
 change Code.wp _ _ _ _ ((w.alloc (.cells c.cells.toArray 38)).alloc (.cells #[.bool false, .int .u64 0, .int .u64 0, .int .i64 0, .bool false, .bool false, .int .i64 0, .bool false, .int .i64 0, .int .i64 0, .bool false, .int .i64 0, .int .i64 0, .int .u64 0, .int .u64 0, .int .i64 0, .int .i64 0, .int .i64 0, .int .i64 0, .int .i64 0, .int .i64 0, .int .i64 0, .int .i64 0, .int .i64 0, .int .i64 0] 49))
 have hz1 : ((w.alloc (.cells c.cells.toArray 38)).alloc (.cells #[.bool false, .int .u64 0, .int .u64 0, .int .i64 0, .bool false, .bool false, .int .i64 0, .bool false, .int .i64 0, .int .i64 0, .bool false, .int .i64 0, .int .i64 0, .int .u64 0, .int .u64 0, .int .i64 0, .int .i64 0, .int .i64 0, .int .i64 0, .int .i64 0, .int .i64 0, .int .i64 0, .int .i64 0, .int .i64 0, .int .i64 0] 49)).heap.size = w.heap.size + 2 := by rw [World.size_alloc, World.size_alloc]
 generalize ((w.alloc (.cells c.cells.toArray 38)).alloc (.cells #[.bool false, .int .u64 0, .int .u64 0, .int .i64 0, .bool false, .bool false, .int .i64 0, .bool false, .int .i64 0, .int .i64 0, .bool false, .int .i64 0, .int .i64 0, .int .u64 0, .int .u64 0, .int .i64 0, .int .i64 0, .int .i64 0, .int .i64 0, .int .i64 0, .int .i64 0, .int .i64 0, .int .i64 0, .int .i64 0, .int .i64 0] 49)) = w1 at *
 obtain ⟨rk, hrk⟩ : ∃ r, w.heap.size = r := ⟨_, rfl⟩
 rw [hrk] at B1 B2 hb0 hz1
 try rw [hrk]
 go_upto_region 2 with (with_reducible refine wpList_load_blk rfl 32 (.tmp 4) rfl rk 7 rfl B1 [.bool c.r.nw, .int .i64 c.r.ns, .int .i64 c.r.ng, .bool c.r.ww, .int .i64 c.r.ws, .int .i64 c.r.wg, .int .u64 c.r.ka, .int .u64 c.r.kb, .int .i64 c.r.np, .int .i64 c.r.a, .int .i64 c.r.b, .int .i64 c.r.c, .int .i64 c.r.d, .int .i64 c.r.G] rfl _ Tryz.underlying32 rfl (by kernel_rfl) ?_)
 change Code.wp _ _ _ _ (w1.alloc (.cells c.r.cells.toArray 32))
 have B3 := Blk.new w1 32 c.r.cells.toArray
 have hba := below_alloc (Below.refl w1.heap.size w1) (.cells c.r.cells.toArray 32)
 have B1' := B1.call hba
 have B2' := B2.call hba
 have hb2 := Below.alloc hb0 (by omega) (.cells c.r.cells.toArray 32)
 have hlt := B2.lt
 clear hba B1 B2 hb0
 generalize w1.alloc (.cells c.r.cells.toArray 32) = w2 at *
 rw [hz1] at B3
 have c3 : w2.cell? ⟨rk, 3, none⟩ = some (.int .i64 c.port) := B1'.cell 3
 have c4 : w2.cell? ⟨rk, 4, none⟩ = some (.bool c.sf) := B1'.cell 4
 have c5 : w2.cell? ⟨rk, 5, none⟩ = some (.bool c.fb) := B1'.cell 5
 have c6 : w2.cell? ⟨rk, 6, none⟩ = some (.int .i64 c.inst) := B1'.cell 6
 have c21 : w2.cell? ⟨rk, 21, none⟩ = some (.int .i64 c.pk) := B1'.cell 21
 have c22 : w2.cell? ⟨rk, 22, none⟩ = some (.int .i64 c.ps) := B1'.cell 22
 have c23 : w2.cell? ⟨rk, 23, none⟩ = some (.int .i64 c.ri) := B1'.cell 23
 have c24 : w2.cell? ⟨rk, 24, none⟩ = some (.int .i64 c.fa) := B1'.cell 24
 have r8 : w2.cell? ⟨rk + 2, 8, none⟩ = some (.int .i64 c.r.np) := B3.cell 8
 have r13 : w2.cell? ⟨rk + 2, 13, none⟩ = some (.int .i64 c.r.G) := B3.cell 13
 go_wp2_with (first
  | (with_reducible refine wpList_load_blk rfl 24 (.tmp 6) rfl rk 0 rfl B1' [.bool c.v, .int .u64 c.hi, .int .u64 c.lo] rfl _ Tryz.underlying24 rfl (by kernel_rfl) ?_)
  | (with_reducible refine wpList_load_blk rfl 26 (.tmp 16) rfl (rk + 2) 0 rfl B3 [.bool c.r.nw, .int .i64 c.r.ns, .int .i64 c.r.ng] rfl _ Tryz.underlying26 rfl (by kernel_rfl) ?_)
  | (with_reducible refine wpList_load_blk rfl 26 (.tmp 18) rfl (rk + 2) 3 rfl B3 [.bool c.r.ww, .int .i64 c.r.ws, .int .i64 c.r.wg] rfl _ Tryz.underlying26 rfl (by kernel_rfl) ?_)
  | (with_reducible refine wpList_load_blk rfl 28 (.tmp 20) rfl (rk + 2) 6 rfl B3 [.int .u64 c.r.ka, .int .u64 c.r.kb] rfl _ Tryz.underlying28 rfl (by kernel_rfl) ?_)
  | (with_reducible refine wpList_load_blk rfl 30 (.tmp 24) rfl (rk + 2) 9 rfl B3 [.int .i64 c.r.a, .int .i64 c.r.b, .int .i64 c.r.c, .int .i64 c.r.d] rfl _ Tryz.underlying30 rfl (by kernel_rfl) ?_)
  | (with_reducible refine wpList_store_blk rfl rfl 49 (.tmp 2) (.tmp 43) rfl (rk + 1) 0 rfl B2' [.bool c.v, .int .u64 c.hi, .int .u64 c.lo, .int .i64 c.port, .bool c.sf, .bool c.fb, .int .i64 c.inst, .bool c.r.nw, .int .i64 c.r.ns, .int .i64 c.r.ng, .bool c.r.ww, .int .i64 c.r.ws, .int .i64 c.r.wg, .int .u64 c.r.ka, .int .u64 c.r.kb, .int .i64 c.r.np, .int .i64 c.r.a, .int .i64 c.r.b, .int .i64 c.r.c, .int .i64 c.r.d, .int .i64 c.r.G, .int .i64 c.pk, .int .i64 c.ps, .int .i64 c.ri, .int .i64 c.fa] rfl (Nat.le_of_ble_eq_true (by kernel_rfl)) (by kernel_rfl) rfl ?_; intro w4 hB4 hc4 hz4))
 replace hb2 := below_chg hb2 hc4 (fun y hy e => by have e2 : y = rk + 1 := e; omega) (by have := B1'.lt; omega)
 refine bodyPost_ret (v := c.val) (results_cell rfl rfl (loadVar_blk 49 hB4 [.bool c.v, .int .u64 c.hi, .int .u64 c.lo, .int .i64 c.port, .bool c.sf, .bool c.fb, .int .i64 c.inst, .bool c.r.nw, .int .i64 c.r.ns, .int .i64 c.r.ng, .bool c.r.ww, .int .i64 c.r.ws, .int .i64 c.r.wg, .int .u64 c.r.ka, .int .u64 c.r.kb, .int .i64 c.r.np, .int .i64 c.r.a, .int .i64 c.r.b, .int .i64 c.r.c, .int .i64 c.r.d, .int .i64 c.r.G, .int .i64 c.pk, .int .i64 c.ps, .int .i64 c.ri, .int .i64 c.fa] rfl _ Tryz.underlying49 rfl (by kernel_rfl))) rfl ?_
 exact ⟨rfl, by rw [hrk]; exact hb2⟩
end Go.Proofs.YtohapcacckapoaaGreat
