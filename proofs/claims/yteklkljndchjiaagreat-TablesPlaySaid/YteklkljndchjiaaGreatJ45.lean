/- tables: the code's tables and the document's in one world. -/
import Derived.Test.YteklkljndchjiaaGreatJ43
import Derived.Test.YteklkljndchjiaaGreatJ44
import Derived.Test.YteklkljndchjiaaGreatJ36
import Derived.Test.YteklkljndchjiaaGreatJ40
import Derived.Test.YteklkljndchjiaaGreatJ41
namespace Go.Proofs.YteklkljndchjiaaGreat
open Go Go.RowKit Go.Deep Go.Maps Go.ChangeMaps
def New2 (w w' : World) (K : Nat → Prop) : Nat → Prop := fun y => K y ∨ w.heap.size ≤ y ∧ y < w'.heap.size
def TwoS (w0 w : World) (g g2 : Nat) (r : TRule) (p n : Nat) (S1 S2 : Nat → TSt) (K1 K2 : Nat → Prop) : Prop :=
 (∀ i, i < p → TI n (S1 i)) ∧ (∀ i, i < p → TI n (S2 i)) ∧ r.cfg.right ∧ Below w0.heap.size w0 w ∧ ∃ X Y, TabsP w g r p n S1 X ∧ DTabsP w g2 r p n S2 Y ∧ (∀ y, X y → w0.heap.size ≤ y ∧ ¬ K1 y ∧ ¬ Y y) ∧ ∀ y, Y y → w0.heap.size ≤ y ∧ ¬ K2 y
section
variable {w0 w w' : World} {g g2 p n : Nat} {r : TRule} {S1 S2 S' : Nat → TSt} {K1 K2 K1' K2' F : Nat → Prop}
theorem TwoS.below (h : TwoS w0 w g g2 r p n S1 S2 K1 K2) : Below w0.heap.size w0 w := h.2.2.2.1
theorem TwoS.rng (h : TwoS w0 w g g2 r p n S1 S2 K1 K2) : r.np = (p : Int) ∧ 1 ≤ p ∧ p ≤ 16 := by
 obtain ⟨_, _, _, _, X, Y, k1, -⟩ := h
 exact k1.rng
theorem TwoS.n4096 (h : TwoS w0 w g g2 r p n S1 S2 K1 K2) : n ≤ 4096 := by
 obtain ⟨_, _, _, _, X, Y, k1, ⟨pb, q, gs, Xs, k2⟩, -⟩ := h
 exact dtabP_rng (k2.tab 0 (by have := k2.p1; omega))
theorem TwoS.mono (h : TwoS w0 w g g2 r p n S1 S2 K1 K2) (h1 : ∀ y, K1' y → K1 y) (h2 : ∀ y, K2' y → K2 y) : TwoS w0 w g g2 r p n S1 S2 K1' K2' := by
 obtain ⟨a1, a2, a3, a4, X, Y, k1, k2, k3, k4⟩ := h
 exact ⟨a1, a2, a3, a4, X, Y, k1, k2, fun y hy => ⟨(k3 y hy).1, fun e => (k3 y hy).2.1 (h1 y e), (k3 y hy).2.2⟩, fun y hy => ⟨(k4 y hy).1, fun e => (k4 y hy).2 (h2 y e)⟩⟩
theorem TwoS.chg (h : TwoS w0 w g g2 r p n S1 S2 K1 K2) (k : Chg F w w') (h1 : ∀ y, F y → K1 y ∧ K2 y ∧ w0.heap.size ≤ y) : TwoS w0 w' g g2 r p n S1 S2 K1 K2 := by
 obtain ⟨a1, a2, a3, a4, X, Y, k1, k2, k3, k4⟩ := h
 exact ⟨a1, a2, a3, below_chg a4 k (fun y hy hx => by have := (h1 y hx).2.2; omega) a4.size, X, Y, k1.chg k (fun y hy hf => (k3 y hy).2.1 (h1 y hf).1), k2.chg k (fun y hy hf => (k4 y hy).2 (h1 y hf).2.1), k3, k4⟩
theorem TwoS.call (h : TwoS w0 w g g2 r p n S1 S2 K1 K2) (hb : Below w.heap.size w w') : TwoS w0 w' g g2 r p n S1 S2 (New2 w w' K1) (New2 w w' K2) := by
 obtain ⟨a1, a2, a3, a4, X, Y, k1, k2, k3, k4⟩ := h
 refine ⟨a1, a2, a3, below_chain hb a4, X, Y, k1.call hb, k2.call hb, fun y hy => ⟨(k3 y hy).1, fun e => ?_, (k3 y hy).2.2⟩, fun y hy => ⟨(k4 y hy).1, fun e => ?_⟩⟩
 ·
  rcases e with e | e
  · exact (k3 y hy).2.1 e
  ·
   have := k1.lt hy
   omega
 ·
  rcases e with e | e
  · exact (k4 y hy).2 e
  ·
   have := k2.lt hy
   omega
theorem TwoS.call0 (h : TwoS w0 w g g2 r p n S1 S2 K1 K2) (hb : Below w.heap.size w w') : TwoS w0 w' g g2 r p n S1 S2 K1 K2 := (h.call hb).mono (fun _ hk => .inl hk) fun _ hk => .inl hk
theorem TwoS.push {A A' : Option Addr} (h : TwoS w0 w g g2 r p n S1 S2 K1 K2) (hP : Pushed w w' A A') (hA1 : ∀ b, InB A b → K1 b) (hA2 : ∀ b, InB A b → K2 b) (h0 : ∀ b, InB A b → w0.heap.size ≤ b) : TwoS w0 w' g g2 r p n S1 S2 (fun b => K1 b ∨ InB A' b) (fun b => K2 b ∨ InB A' b) := by
 obtain ⟨a1, a2, a3, a4, X, Y, k1, k2, k3, k4⟩ := h
 refine ⟨a1, a2, a3, below_chg a4 hP.chg (fun b hb hx => by have := h0 b hx; omega) a4.size, X, Y, k1.chg hP.chg (fun b hx hf => (k3 b hx).2.1 (hA1 b hf)), k2.chg hP.chg (fun b hx hf => (k4 b hx).2 (hA2 b hf)), fun b hx => ⟨(k3 b hx).1, fun hk => ?_, (k3 b hx).2.2⟩, fun b hx => ⟨(k4 b hx).1, fun hk => ?_⟩⟩
 ·
  rcases hk with hk | hk
  · exact (k3 b hx).2.1 hk
  ·
   rcases hP.new b hk with h | h
   · exact (k3 b hx).2.1 (hA1 b h)
   ·
    have := k1.lt hx
    omega
 ·
  rcases hk with hk | hk
  · exact (k4 b hx).2 hk
  ·
   rcases hP.new b hk with h | h
   · exact (k4 b hx).2 (hA2 b h)
   ·
    have := k2.lt hx
    omega
theorem twos_code {X Y : Nat → Prop} (a1 : ∀ i, i < p → TI n (S' i)) (a2 : ∀ i, i < p → TI n (S2 i)) (a3 : r.cfg.right) (a4 : Below w0.heap.size w0 w) (k2 : DTabsP w g2 r p n S2 Y) (k3 : ∀ y, X y → w0.heap.size ≤ y ∧ ¬ K1 y ∧ ¬ Y y) (k4 : ∀ y, Y y → w0.heap.size ≤ y ∧ ¬ K2 y) (hK : ∀ y, K1 y → y < w.heap.size) (t : TabsTo w w' g r p n S' X) :
  TwoS w0 w' g g2 r p n S' S2 K1 (New2 w w' K2) ∧ Chg (Nk w0 K1) w w' := by
 obtain ⟨X', m1, m2, m3⟩ := t
 have hz := a4.size
 refine ⟨⟨a1, a2, a3, below_chg a4 m2 (fun y hy hx => by have := (k3 y hx).1; omega) hz, X', Y, m1, k2.chg m2 (fun y hy hx => (k3 y hx).2.2 hy), fun y hy => ?_, fun y hy => ⟨(k4 y hy).1, fun e => ?_⟩⟩, m2.mono fun y _ hx => ⟨(k3 y hx).1, (k3 y hx).2.1⟩⟩
 ·
  rcases m3 y hy with e | e
  · exact k3 y e
  · exact ⟨by omega, fun h => by have := hK y h; omega, fun h => by have := k2.lt h; omega⟩
 ·
  rcases e with e | e
  · exact (k4 y hy).2 e
  ·
   have := k2.lt hy
   omega
theorem twos_doc {X Y : Nat → Prop} (a1 : ∀ i, i < p → TI n (S1 i)) (a2 : ∀ i, i < p → TI n (S' i)) (a3 : r.cfg.right) (a4 : Below w0.heap.size w0 w) (k1 : TabsP w g r p n S1 X) (k3 : ∀ y, X y → w0.heap.size ≤ y ∧ ¬ K1 y ∧ ¬ Y y) (k4 : ∀ y, Y y → w0.heap.size ≤ y ∧ ¬ K2 y) (hK : ∀ y, K2 y → y < w.heap.size) (t : DTabsTo w w' g2 r p n S' Y) :
  TwoS w0 w' g g2 r p n S1 S' (New2 w w' K1) K2 ∧ Chg (Nk w0 K2) w w' := by
 obtain ⟨Y', m1, m2, m3⟩ := t
 have hz := a4.size
 refine ⟨⟨a1, a2, a3, below_chg a4 m2 (fun y hy hx => by have := (k4 y hx).1; omega) hz, X, Y', k1.chg m2 (fun y hy hx => (k3 y hy).2.2 hx), m1, fun y hy => ⟨(k3 y hy).1, fun e => ?_, fun e => ?_⟩, fun y hy => ?_⟩, m2.mono fun y _ hx => k4 y hx⟩
 ·
  rcases e with e | e
  · exact (k3 y hy).2.1 e
  ·
   have := k1.lt hy
   omega
 ·
  rcases m3 y e with e | e
  · exact (k3 y hy).2.2 e
  ·
   have := k1.lt hy
   omega
 ·
  rcases m3 y hy with e | e
  · exact k4 y e
  · exact ⟨by omega, fun h => by have := hK y h; omega⟩
theorem twos_open (h : TwoS w0 w g g2 r p n S1 S2 K1 K2) (hK : ∀ y, K1 y → y < w.heap.size) (t : Tup) (bk fl : Int) :
  Calls Tryz.prog 15 #[.pointer (some ⟨g, 0, none⟩), t.val, .int .i64 bk, .int .i64 fl] w fun e w' => e = .returned (.tuple #[(openV r.cfg (S1 (pIx r t)) t bk fl).val, .int .u64 (openCk r (S1 (pIx r t)) t bk fl), .int .i64 (openE (S1 (pIx r t)) t bk fl)]) ∧ TwoS w0 w' g g2 r p n (updS S1 (pIx r t) (openS r.cfg n (S1 (pIx r t)) t bk fl)) S2 K1 (New2 w w' K2) ∧ Chg (Nk w0 K1) w w' := by
 obtain ⟨a1, a2, a3, a4, X, Y, k1, k2, k3, k4⟩ := h
 obtain ⟨hnp, hp1, hp16⟩ := k1.rng
 obtain ⟨-, hpl⟩ := pIx_eq r t hnp hp1 hp16
 refine (tabs_open k1 a1 a3 t bk fl).mono ?_
 rintro e w' ⟨rfl, hT⟩
 exact ⟨rfl, twos_code (updS_ti a1 ((a1 _ hpl).open t bk fl)) a2 a3 a4 k2 k3 k4 hK hT⟩
theorem twos_find (h : TwoS w0 w g g2 r p n S1 S2 K1 K2) (hK : ∀ y, K1 y → y < w.heap.size) (t : Tup) (k : Nat) (hk : k < 18446744073709551616) :
  Calls Tryz.prog 17 #[.pointer (some ⟨g, 0, none⟩), t.val, .int .u64 (k : Int)] w fun e w' => e = .returned (.tuple #[(findVC r n (S1 (pIx r t)) t k).val, .bool (findOkC r n (S1 (pIx r t)) t k)]) ∧ TwoS w0 w' g g2 r p n (updS S1 (pIx r t) (findSC r n (S1 (pIx r t)) t k)) S2 K1 (New2 w w' K2) ∧ Chg (Nk w0 K1) w w' := by
 obtain ⟨a1, a2, a3, a4, X, Y, k1, k2, k3, k4⟩ := h
 obtain ⟨hnp, hp1, hp16⟩ := k1.rng
 obtain ⟨-, hpl⟩ := pIx_eq r t hnp hp1 hp16
 refine (tabs_find k1 t k hk).mono ?_
 rintro e w' ⟨rfl, hT⟩
 exact ⟨rfl, twos_code (updS_ti a1 (a1 _ hpl).findSC) a2 a3 a4 k2 k3 k4 hK hT⟩
theorem twos_touch (h : TwoS w0 w g g2 r p n S1 S2 K1 K2) (hK : ∀ y, K1 y → y < w.heap.size) (t : Tup) (k : Nat) (hk : k < 18446744073709551616) (fl : Int) :
  Calls Tryz.prog 19 #[.pointer (some ⟨g, 0, none⟩), t.val, .int .u64 (k : Int), .int .i64 fl] w fun e w' => e = .returned (.tuple #[(touchVC r n (S1 (pIx r t)) t k fl).val, .bool (touchOkC r n (S1 (pIx r t)) t k)]) ∧ TwoS w0 w' g g2 r p n (updS S1 (pIx r t) (touchSC r n (S1 (pIx r t)) t k fl)) S2 K1 (New2 w w' K2) ∧ Chg (Nk w0 K1) w w' := by
 obtain ⟨a1, a2, a3, a4, X, Y, k1, k2, k3, k4⟩ := h
 obtain ⟨hnp, hp1, hp16⟩ := k1.rng
 obtain ⟨-, hpl⟩ := pIx_eq r t hnp hp1 hp16
 refine (tabs_touch k1 a1 a3 t k hk fl).mono ?_
 rintro e w' ⟨rfl, hT⟩
 exact ⟨rfl, twos_code (updS_ti a1 (touchSC_ti (a1 _ hpl))) a2 a3 a4 k2 k3 k4 hK hT⟩
theorem twos_drop (h : TwoS w0 w g g2 r p n S1 S2 K1 K2) (hK : ∀ y, K1 y → y < w.heap.size) (bk : Int) :
  Calls Tryz.prog 24 #[.pointer (some ⟨g, 0, none⟩), .int .i64 bk] w fun e w' => ∃ (A : Option Addr) (a : Nat), e = .returned (.slice A (catF (fun i => entsOf (S1 i).E (dropL n bk (S1 i))) p).length a) ∧ OwnE w' w.heap.size A a (catF (fun i => entsOf (S1 i).E (dropL n bk (S1 i))) p) ∧ TwoS w0 w' g g2 r p n (fun i => dropSC n bk (S1 i)) S2 K1 (New2 w w' K2) ∧ Chg (Nk w0 K1) w w' := by
 obtain ⟨a1, a2, a3, a4, X, Y, k1, k2, k3, k4⟩ := h
 refine (tabs_drop k1 a1 bk).mono ?_
 rintro e w' ⟨A, a, rfl, hO, hT⟩
 exact ⟨A, a, rfl, hO, twos_code (fun i hip => ((a1 i hip).drop _).1) a2 a3 a4 k2 k3 k4 hK hT.to⟩
theorem catF_nil {α : Type} (p : Nat) : catF (fun _ => ([] : List α)) p = [] := by
 induction p with
 | zero => rfl
 | succ p ih => rw [catF, ih]; rfl
theorem twos_go (h : TwoS w0 w g g2 r p n S1 S2 K1 K2) (hK : ∀ y, K1 y → y < w.heap.size) (nw : Int) (hnow : ∀ i, i < p → (S1 i).now = (S1 0).now) :
  Calls Tryz.prog 21 #[.pointer (some ⟨g, 0, none⟩), .int .i64 nw] w fun e w' => ∃ (A : Option Addr) (a : Nat) (SS : Nat → List Int), e = .returned (.tuple #[.slice A (catF (fun i => goEnts (S1 i) (SS i)) p).length a, .int .i64 (goE (S1 0).now nw)]) ∧ (∀ i, i < p → GoS r.G (S1 i).now nw (S1 i).M (SS i)) ∧ OwnE w' w.heap.size A a (catF (fun i => goEnts (S1 i) (SS i)) p) ∧ TwoS w0 w' g g2 r p n (fun i => goTab n (S1 i) nw (SS i)) S2 K1 (New2 w w' K2) ∧ Chg (Nk w0 K1) w w' := by
 obtain ⟨a1, a2, a3, a4, X, Y, k1, k2, k3, k4⟩ := h
 unfold goE
 cases hg : goOk (S1 0).now nw
 ·
  refine (tabs_go_no k1 a1 nw hg).mono ?_
  rintro e w' ⟨rfl, hT⟩
  refine ⟨none, 0, fun _ => [], ?_, fun i hip => ⟨fun _ => rfl, fun e => (by rw [hnow i hip, hg] at e; cases e), List.nodup_nil, List.Pairwise.nil⟩, ?_, ?_⟩
  ·
   rw [show (fun i => goEnts (S1 i) []) = fun _ => ([] : List Slt) from rfl, catF_nil]
   rfl
  ·
   rw [show (fun i => goEnts (S1 i) []) = fun _ => ([] : List Slt) from rfl, catF_nil]
   exact OwnA.nil _ _
  ·
   refine twos_code (fun i hip => ?_) a2 a3 a4 k2 k3 k4 hK ?_
   ·
    show TI n (goTab n (S1 i) nw [])
    rw [goTab_no (by rw [hnow i hip]; exact hg)]
    exact a1 i hip
   ·
    obtain ⟨X', ⟨pb, q, gs, sbs, Xs, m1⟩, m2, m3⟩ := hT
    exact ⟨X', ⟨pb, q, gs, sbs, Xs, m1.congr fun i hip => (goTab_no (by rw [hnow i hip]; exact hg)).symm⟩, m2, m3⟩
 ·
  refine (tabs_go k1 a1 nw fun i hip => by rw [hnow i hip]; exact hg).mono ?_
  rintro e w' ⟨A, a, SS, rfl, hG, hO, hT⟩
  exact ⟨A, a, SS, rfl, hG, hO, twos_code (fun i hip => ((a1 i hip).go (hG i hip)).1) a2 a3 a4 k2 k3 k4 hK hT.to⟩
theorem twos_live (h : TwoS w0 w g g2 r p n S1 S2 K1 K2) :
  Calls Tryz.prog 27 #[.pointer (some ⟨g, 0, none⟩)] w fun e w' => ∃ (A : Option Addr) (a : Nat), e = .returned (.slice A (entsL n p S1).length a) ∧ OwnE w' w.heap.size A a (entsL n p S1) ∧ Below w.heap.size w w' := by
 obtain ⟨a1, a2, a3, a4, X, Y, k1, k2, k3, k4⟩ := h
 exact tabs_live k1
theorem twos_looks (h : TwoS w0 w g g2 r p n S1 S2 K1 K2) : Calls Tryz.prog 28 #[.pointer (some ⟨g, 0, none⟩)] w fun e w' => e = .returned (.int .i64 (sumF (fun i => (S1 i).lk) p)) ∧ Below w.heap.size w w' := by
 obtain ⟨a1, a2, a3, a4, X, Y, k1, k2, k3, k4⟩ := h
 exact tabs_looks k1
theorem twos_free (h : TwoS w0 w g g2 r p n S1 S2 K1 K2) (i : Int) : Calls Tryz.prog 30 #[.pointer (some ⟨g, 0, none⟩), .int .i64 i] w fun e w' => e = .returned (.int .i64 (freeI p S1 i)) ∧ w = w' := by
 obtain ⟨a1, a2, a3, a4, X, Y, k1, k2, k3, k4⟩ := h
 exact tabs_freeP k1 i
theorem twos_cookie (h : TwoS w0 w g g2 r p n S1 S2 K1 K2) (x : Slt) (hx : 0 ≤ x.gen ∧ x.gen < 18446744073709551616) : Calls Tryz.prog 32 #[.pointer (some ⟨g, 0, none⟩), x.val] w fun e w' => e = .returned (.int .u64 (makeI r.wd r.sl r.gn r.ka r.kb x.t x.sl x.gen)) ∧ Below w.heap.size w w' := by
 obtain ⟨a1, a2, a3, a4, X, Y, k1, k2, k3, k4⟩ := h
 exact tabs_cookieP k1 x hx
theorem twos_dopen (h : TwoS w0 w g g2 r p n S1 S2 K1 K2) (hK : ∀ y, K2 y → y < w.heap.size) (t : Tup) (ht : tupWf t) (bk fl : Int) :
  Calls Tryz.prog 16 #[.pointer (some ⟨g2, 0, none⟩), t.val, .int .i64 bk, .int .i64 fl] w fun e w' => e = .returned (.tuple #[(openV r.cfg (S2 (pIx r t)) t bk fl).val, .int .u64 (openCk r (S2 (pIx r t)) t bk fl), .int .i64 (openE (S2 (pIx r t)) t bk fl)]) ∧ TwoS w0 w' g g2 r p n S1 (updS S2 (pIx r t) (openS r.cfg n (S2 (pIx r t)) t bk fl)) (New2 w w' K1) K2 ∧ Chg (Nk w0 K2) w w' := by
 obtain ⟨a1, a2, a3, a4, X, Y, k1, k2, k3, k4⟩ := h
 obtain ⟨hnp, hp1, hp16⟩ := k1.rng
 obtain ⟨-, hpl⟩ := pIx_eq r t hnp hp1 hp16
 refine (reftabs_open k2 a2 a3 t ht bk fl).mono ?_
 rintro e w' ⟨rfl, hT⟩
 exact ⟨rfl, twos_doc a1 (updS_ti a2 ((a2 _ hpl).open t bk fl)) a3 a4 k1 k3 k4 hK hT⟩
theorem twos_dfind (h : TwoS w0 w g g2 r p n S1 S2 K1 K2) (hK : ∀ y, K2 y → y < w.heap.size) (t : Tup) (ht : tupWf t) (k : Nat) (hk : k < 18446744073709551616) :
  Calls Tryz.prog 18 #[.pointer (some ⟨g2, 0, none⟩), t.val, .int .u64 (k : Int)] w fun e w' => e = .returned (.tuple #[(findVC r n (S2 (pIx r t)) t k).val, .bool (findOkC r n (S2 (pIx r t)) t k)]) ∧ TwoS w0 w' g g2 r p n S1 (updS S2 (pIx r t) (findSC r n (S2 (pIx r t)) t k)) (New2 w w' K1) K2 ∧ Chg (Nk w0 K2) w w' := by
 obtain ⟨a1, a2, a3, a4, X, Y, k1, k2, k3, k4⟩ := h
 obtain ⟨hnp, hp1, hp16⟩ := k1.rng
 obtain ⟨-, hpl⟩ := pIx_eq r t hnp hp1 hp16
 refine (reftabs_find k2 a2 t ht k hk).mono ?_
 rintro e w' ⟨rfl, hT⟩
 exact ⟨rfl, twos_doc a1 (updS_ti a2 (a2 _ hpl).findSC) a3 a4 k1 k3 k4 hK hT⟩
theorem twos_dtouch (h : TwoS w0 w g g2 r p n S1 S2 K1 K2) (hK : ∀ y, K2 y → y < w.heap.size) (t : Tup) (ht : tupWf t) (k : Nat) (hk : k < 18446744073709551616) (fl : Int) :
  Calls Tryz.prog 20 #[.pointer (some ⟨g2, 0, none⟩), t.val, .int .u64 (k : Int), .int .i64 fl] w fun e w' => e = .returned (.tuple #[(touchVC r n (S2 (pIx r t)) t k fl).val, .bool (touchOkC r n (S2 (pIx r t)) t k)]) ∧ TwoS w0 w' g g2 r p n S1 (updS S2 (pIx r t) (touchSC r n (S2 (pIx r t)) t k fl)) (New2 w w' K1) K2 ∧ Chg (Nk w0 K2) w w' := by
 obtain ⟨a1, a2, a3, a4, X, Y, k1, k2, k3, k4⟩ := h
 obtain ⟨hnp, hp1, hp16⟩ := k1.rng
 obtain ⟨-, hpl⟩ := pIx_eq r t hnp hp1 hp16
 refine (reftabs_touch k2 a2 a3 t ht k hk fl).mono ?_
 rintro e w' ⟨rfl, hT⟩
 exact ⟨rfl, twos_doc a1 (updS_ti a2 (touchSC_ti (a2 _ hpl))) a3 a4 k1 k3 k4 hK hT⟩
theorem twos_ddrop (h : TwoS w0 w g g2 r p n S1 S2 K1 K2) (hK : ∀ y, K2 y → y < w.heap.size) (bk : Int) :
  Calls Tryz.prog 25 #[.pointer (some ⟨g2, 0, none⟩), .int .i64 bk] w fun e w' => ∃ (A : Option Addr) (a : Nat), e = .returned (.slice A (catF (fun i => entsOf (S2 i).E (dropL n bk (S2 i))) p).length a) ∧ OwnE w' w.heap.size A a (catF (fun i => entsOf (S2 i).E (dropL n bk (S2 i))) p) ∧ TwoS w0 w' g g2 r p n S1 (fun i => dropSC n bk (S2 i)) (New2 w w' K1) K2 ∧ Chg (Nk w0 K2) w w' := by
 obtain ⟨a1, a2, a3, a4, X, Y, k1, k2, k3, k4⟩ := h
 refine (reftabs_drop k2 a2 bk).mono ?_
 rintro e w' ⟨A, a, rfl, hO, hT⟩
 exact ⟨A, a, rfl, hO, twos_doc a1 (fun i hip => ((a2 i hip).drop _).1) a3 a4 k1 k3 k4 hK hT.to⟩
theorem goS_len {s : TSt} {G nw : Int} {l : List Int} (hi : TI n s) (hS : GoS G s.now nw s.M l) : l.length ≤ n := by
 have h5 := hi.go hS
 have h6 := live_free h5.1
 rw [h5.2.2.2.1, List.length_append, List.length_reverse] at h6
 omega
theorem twos_dgo (h : TwoS w0 w g g2 r p n S1 S2 K1 K2) (hK : ∀ y, K2 y → y < w.heap.size) (nw : Int) (hnow : ∀ i, i < p → (S2 i).now = (S2 0).now) {SS : Nat → List Int} (hS : ∀ i, i < p → GoS r.G (S2 i).now nw (S2 i).M (SS i)) :
  Calls Tryz.prog 22 #[.pointer (some ⟨g2, 0, none⟩), .int .i64 nw] w fun e w' => ∃ (A : Option Addr) (a : Nat), e = .returned (.tuple #[.slice A (catF (fun i => goEnts (S2 i) (SS i)) p).length a, .int .i64 (goE (S2 0).now nw)]) ∧ OwnE w' w.heap.size A a (catF (fun i => goEnts (S2 i) (SS i)) p) ∧ TwoS w0 w' g g2 r p n S1 (fun i => goTab n (S2 i) nw (SS i)) (New2 w w' K1) K2 ∧ Chg (Nk w0 K2) w w' := by
 have hn := h.n4096
 obtain ⟨a1, a2, a3, a4, X, Y, k1, k2, k3, k4⟩ := h
 unfold goE
 cases hg : goOk (S2 0).now nw
 ·
  have hnil : ∀ i, i < p → SS i = [] := fun i hip => (hS i hip).1 (by rw [hnow i hip]; exact hg)
  have hcat : (catF (fun i => goEnts (S2 i) (SS i)) p) = [] := by
   rw [catF_congr (f' := fun _ => []) fun i hip => by rw [hnil i hip]; rfl]
   exact catF_nil p
  rw [hcat]
  refine (reftabs_go_no k2 a2 nw hg).mono ?_
  rintro e w' ⟨rfl, hT⟩
  refine ⟨none, 0, rfl, OwnA.nil _ _, ?_⟩
  have hE : ∀ i, i < p → S2 i = goTab n (S2 i) nw (SS i) := fun i hip => by rw [hnil i hip]; exact (goTab_no (by rw [hnow i hip]; exact hg)).symm
  refine twos_doc a1 (fun i hip => ?_) a3 a4 k1 k3 k4 hK ?_
  ·
   show TI n (goTab n (S2 i) nw (SS i))
   rw [← hE i hip]
   exact a2 i hip
  ·
   obtain ⟨X', ⟨pb, q, gs, Xs, m1⟩, m2, m3⟩ := hT
   exact ⟨X', ⟨pb, q, gs, Xs, m1.congr hE⟩, m2, m3⟩
 ·
  refine (reftabs_go k2 a2 nw (fun i hip => by rw [hnow i hip]; exact hg) SS hS fun i hip => Nat.le_trans (goS_len (a2 i hip) (hS i hip)) hn).mono ?_
  rintro e w' ⟨A, a, rfl, hO, hT⟩
  exact ⟨A, a, rfl, hO, twos_doc a1 (fun i hip => ((a2 i hip).go (hS i hip)).1) a3 a4 k1 k3 k4 hK hT.to⟩
theorem twos_dlive (h : TwoS w0 w g g2 r p n S1 S2 K1 K2) :
  Calls Tryz.prog 26 #[.pointer (some ⟨g2, 0, none⟩)] w fun e w' => ∃ (A : Option Addr) (a : Nat), e = .returned (.slice A (entsL n p S2).length a) ∧ OwnE w' w.heap.size A a (entsL n p S2) ∧ Below w.heap.size w w' := by
 obtain ⟨a1, a2, a3, a4, X, Y, k1, k2, k3, k4⟩ := h
 exact reftabs_live k2
theorem twos_dlooks (h : TwoS w0 w g g2 r p n S1 S2 K1 K2) : Calls Tryz.prog 29 #[.pointer (some ⟨g2, 0, none⟩)] w fun e w' => e = .returned (.int .i64 (sumF (fun i => (S2 i).lk) p)) ∧ w = w' := by
 obtain ⟨a1, a2, a3, a4, X, Y, k1, k2, k3, k4⟩ := h
 exact reftabs_looks k2
theorem twos_dfree (h : TwoS w0 w g g2 r p n S1 S2 K1 K2) (i : Int) : Calls Tryz.prog 31 #[.pointer (some ⟨g2, 0, none⟩), .int .i64 i] w fun e w' => e = .returned (.int .i64 (freeI p S2 i)) ∧ w = w' := by
 obtain ⟨a1, a2, a3, a4, X, Y, k1, k2, k3, k4⟩ := h
 exact law20_free k2 i
theorem twos_dcookie (h : TwoS w0 w g g2 r p n S1 S2 K1 K2) (x : Slt) (ht : tupWf x.t) (hs : x.sl < 9223372036854775808) (hx : 0 ≤ x.gen ∧ x.gen < 18446744073709551616) : Calls Tryz.prog 33 #[.pointer (some ⟨g2, 0, none⟩), x.val] w fun e w' => e = .returned (.int .u64 (makeI r.wd r.sl r.gn r.ka r.kb x.t x.sl x.gen)) ∧ Below w.heap.size w w' := by
 obtain ⟨a1, a2, a3, a4, X, Y, k1, k2, k3, k4⟩ := h
 obtain ⟨pb, q, gs, Xs, k2⟩ := k2
 exact reftabs_cookie k2.read x ht hs hx
def WfE (p n : Nat) (S : Nat → TSt) : Prop := ∀ i, i < p → ∀ k : Nat, k < n → ((S i).E k).used = true → tupWf ((S i).E k).t
theorem WfE.new : WfE p n (fun _ => sT0 n) := fun _ _ _ _ hu => by cases hu
theorem WfE.all {S S' : Nat → TSt} (h : WfE p n S) (hk : ∀ i, i < p → KeepE n (S i) (S' i)) : WfE p n S' := fun i hi k hkn hu => by
 obtain ⟨a1, a2, -⟩ := hk i hi k hkn hu
 rw [a2]
 exact h i hi k hkn a1
theorem WfE.upd {S : Nat → TSt} (h : WfE p n S) {i : Nat} {s' : TSt} (hk : KeepE n (S i) s') : WfE p n (updS S i s') := fun j hj k hkn hu => by
 by_cases e : j = i
 ·
  subst e
  rw [updS_self] at hu ⊢
  obtain ⟨a1, a2, -⟩ := hk k hkn hu
  rw [a2]
  exact h j hj k hkn a1
 ·
  rw [updS_ne _ _ e] at hu ⊢
  exact h j hj k hkn hu
theorem WfE.open {S : Nat → TSt} (h : WfE p n S) (hr : ruleOk r = true) (hn : n = 2 ^ r.sl.toNat) {t : Tup} (hp : pIx r t < p) (hti : TI n (S (pIx r t))) (ht : tupWf t) (bk fl : Int) : WfE p n (updS S (pIx r t) (openS r.cfg n (S (pIx r t)) t bk fl)) := by
 by_cases h0 : openE (S (pIx r t)) t bk fl = 0
 ·
  obtain ⟨k, c, -, -, -, -, hc, -, hE, ht2, -, -, -, -⟩ := open_found hr hn hti t bk fl h0
  intro j hj k2 hkn hu
  by_cases e : j = pIx r t
  ·
   rw [e, updS_self, hE] at hu ⊢
   by_cases e2 : k2 = c
   ·
    rw [e2, updE_self, ht2]
    exact ht
   ·
    rw [updE_ne _ _ e2] at hu ⊢
    exact h _ hp k2 hkn hu
  ·
   rw [updS_ne _ _ e] at hu ⊢
   exact h j hj k2 hkn hu
 ·
  rw [open_no h0, updS_same]
  exact h
theorem WfE.mem {S : Nat → TSt} (h : WfE p n S) (hti : ∀ i, i < p → TI n (S i)) (hn : n ≤ 4096) {x : Slt} (hx : x ∈ entsL n p S) : tupWf x.t ∧ x.sl < 9223372036854775808 ∧ 0 ≤ x.gen ∧ x.gen < 18446744073709551616 := by
 obtain ⟨i, hi, c, hc, hu, rfl⟩ := mem_entsL.1 hx
 refine ⟨h i hi c hc hu, ?_, (hti i hi).gr c hc⟩
 rw [(hti i hi).sl c hc]
 omega
end
end Go.Proofs.YteklkljndchjiaaGreat
