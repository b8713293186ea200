/- wheel: the wheel and the document's wheel in one world; what each step does to both. -/
import Derived.Test.YtfpepgeaaadpdaaWheelS
namespace Go.Proofs.Ytfpepgeaaadpdaa
open Go Go.RowKit Go.Deep Go.Maps Go.ChangeMaps

structure WStp where
  kind : Int
  id : Int
  n : Int
abbrev WStp.cells (s : WStp) : List Value := [.int .i64 s.kind, .int .i64 s.id, .int .i64 s.n]
def wstpWf (s : WStp) : Prop := (Lit.int .i64 s.id).wf = true
theorem wstp_at {w : World} {B : Nat} {A : Option Addr} {l : List WStp} (h : Reads w B 3 A l.length (l.flatMap WStp.cells)) {k : Nat} (hk : k < l.length) :
    ∃ ad s, A = some ad ∧ ad.block < B ∧ l[k]? = some s ∧ w.cell? (ad.add (k * 3)) = some (.int .i64 s.kind) ∧ w.cell? ⟨(ad.add (k * 3)).block, (ad.add (k * 3)).off + 1, none⟩ = some (.int .i64 s.id) ∧ w.cell? ⟨(ad.add (k * 3)).block, (ad.add (k * 3)).off + 2, none⟩ = some (.int .i64 s.n) := by
  obtain ⟨ad, rfl, hb, hc⟩ := h.rec_at WStp.cells (fun _ => rfl) hk
  exact ⟨ad, l[k], rfl, hb, List.getElem?_eq_getElem hk, hc 0 _ rfl, hc 1 _ rfl, hc 2 _ rfl⟩
/-- Both wheels, each with its own time and map. -/
def WJ (w : World) (base g bm g2 : Nat) (G n1 : Int) (M1 : LM) (n2 : Int) (M2 : LM) : Prop :=
  ∃ (R : Nat → List Int) (A : Nat → Option Addr) (C : Nat → Nat) (T : Nat → Int) (Z : Array Value) (P : Option Addr) (c : Nat) (Q : Option Addr) (d : Nat),
    WhAt w base g bm G n1 M1 R A C T Z ∧ RowInv M1 R T ∧ wInv G n1 M1 T ∧ RWhAt w g2 G n2 M2 P c Q d ∧ (∀ b, whF g bm A b → ¬ rwF g2 P Q b) ∧ base ≤ g2
section
variable {w w' : World} {base g bm g2 : Nat} {G n1 n2 : Int} {M1 M2 : LM}
theorem WJ.call (h : WJ w base g bm g2 G n1 M1 n2 M2) (hb : Below w.heap.size w w') : WJ w' base g bm g2 G n1 M1 n2 M2 := by
  obtain ⟨R, A, C, T, Z, P, c, Q, d, h1, h2, h3, h4, h5, h6⟩ := h
  exact ⟨R, A, C, T, Z, P, c, Q, d, h1.call hb, h2, h3, h4.call hb, h5, h6⟩
theorem WJ.idr (h : WJ w base g bm g2 G n1 M1 n2 M2) : ∀ x ∈ M1, 0 ≤ x.1 ∧ x.1 ≤ 4095 ∧ 0 ≤ x.2 ∧ x.2 ≤ 2199023255552 := by
  obtain ⟨R, A, C, T, Z, P, c, Q, d, h1, h2, h3, h4, h5, h6⟩ := h
  exact h2.idr
/-- The numbers that are due behind a Set. -/
def setMW (M : LM) (id due : Int) : LM := if setOk id due then lmPut M id due else M
theorem wj_set (h : WJ w base g bm g2 G n1 M1 n2 M2) (hG : 1 ≤ G ∧ G ≤ 1024) (hn : 0 ≤ n1 ∧ n1 ≤ 2199023255552) (id due : Int) (hM : M1.length ≤ 100000) :
    Calls Try.prog 8 #[.pointer (some ⟨g, 0, none⟩), .int .i64 id, .int .i64 due] w fun e w' => e = .returned (.bool (setOk id due)) ∧ WJ w' base g bm g2 G n1 (setMW M1 id due) n2 M2 ∧ Below base w w' := by
  obtain ⟨R, A, C, T, Z, P, c, Q, d, h1, h2, h3, h4, h5, h6⟩ := h
  unfold setMW
  cases hs : setOk id due
  · refine (wheel_set_no h1 (by omega) id due hs).mono ?_
    rintro e w' ⟨rfl, rfl⟩
    exact ⟨rfl, ⟨R, A, C, T, Z, P, c, Q, d, h1, h2, h3, h4, h5, h6⟩, Below.refl _ _⟩
  · have hk := hs
    unfold setOk at hk
    rw [decide_eq_true_eq] at hk
    obtain ⟨n, rfl⟩ : ∃ n : Nat, id = (n : Int) := ⟨id.toNat, by omega⟩
    refine (wheel_set h1 h2 hG hn n (by omega) due (by omega) hM).mono ?_
    rintro e w' ⟨rfl, R', A', C', T', Z', k1, k2, k3, k4, k5, k6⟩
    refine ⟨rfl, ⟨R', A', C', T', Z', P, c, Q, d, k1, k2, h3.put (fun x hx => (h2.idr x hx).1) k3 k4, h4.chg k5 fun b hr hF => h5 b hF hr, fun b hb hr => ?_, h6⟩, h1.below_of k5⟩
    rcases k6 b hb with hF | hz
    · exact h5 b hF hr
    · have := h4.lt hr
      omega
theorem wj_unset (h : WJ w base g bm g2 G n1 M1 n2 M2) (hG : 1 ≤ G ∧ G ≤ 1024) (id : Int) (hk : (Lit.int .i64 id).wf = true) :
    Calls Try.prog 10 #[.pointer (some ⟨g, 0, none⟩), .int .i64 id] w fun e w' => e = .returned (.bool (lmHas M1 id)) ∧ WJ w' base g bm g2 G n1 (lmDel M1 id) n2 M2 ∧ Below base w w' := by
  obtain ⟨R, A, C, T, Z, P, c, Q, d, h1, h2, h3, h4, h5, h6⟩ := h
  cases hs : lmHas M1 id
  · refine (wheel_unset_no h1 (by omega) id hk hs).mono ?_
    rintro e w' ⟨rfl, rfl⟩
    rw [lmDel_same hs]
    exact ⟨rfl, ⟨R, A, C, T, Z, P, c, Q, d, h1, h2, h3, h4, h5, h6⟩, Below.refl _ _⟩
  · obtain ⟨n, _, _, rfl, hn, -⟩ := h2.at_ hs
    refine (wheel_unset_any h1 h2 (by omega) n hn).mono ?_
    rintro e w' ⟨rfl, R', T', Z', k1, k2, k3, -, k5⟩
    exact ⟨by rw [hs], ⟨R', A, C, T', Z', P, c, Q, d, k1, k2, h3.del (fun x hx => (h2.idr x hx).1) k3, h4.chg k5 fun b hr hF => h5 b hF hr, h5, h6⟩, h1.below_of k5⟩
theorem wj_due (h : WJ w base g bm g2 G n1 M1 n2 M2) (hG : 1 ≤ G ∧ G ≤ 1024) (id : Int) (hk : (Lit.int .i64 id).wf = true) :
    Calls Try.prog 12 #[.pointer (some ⟨g, 0, none⟩), .int .i64 id] w fun e w' => e = .returned (.tuple #[.int .i64 (lmGet M1 id), .bool (lmHas M1 id)]) ∧ w = w' := by
  obtain ⟨R, A, C, T, Z, P, c, Q, d, h1, h2, h3, h4, h5, h6⟩ := h
  exact wheel_due h1 (by omega) id hk
theorem wj_now (h : WJ w base g bm g2 G n1 M1 n2 M2) (hG : 1 ≤ G ∧ G ≤ 1024) :
    Calls Try.prog 17 #[.pointer (some ⟨g, 0, none⟩)] w fun e w' => e = .returned (.int .i64 n1) ∧ w = w' := by
  obtain ⟨R, A, C, T, Z, P, c, Q, d, h1, h2, h3, h4, h5, h6⟩ := h
  exact wheel_now h1 (by omega)
theorem wj_len (h : WJ w base g bm g2 G n1 M1 n2 M2) (hG : 1 ≤ G ∧ G ≤ 1024) :
    Calls Try.prog 18 #[.pointer (some ⟨g, 0, none⟩)] w fun e w' => e = .returned (.int .i64 M1.length) ∧ w = w' := by
  obtain ⟨R, A, C, T, Z, P, c, Q, d, h1, h2, h3, h4, h5, h6⟩ := h
  exact wheel_len h1 (by omega)
/-- May the time be set so? -/
def goOk (now nw : Int) : Bool := decide (now ≤ nw ∧ nw ≤ 1099511627776)
/-- What Go hands out at a time. -/
structure GoS (G now nw : Int) (M : LM) (S : List Int) : Prop where
  no : goOk now nw = false → S = []
  mem : goOk now nw = true → ∀ x, x ∈ S ↔ lmHas M x = true ∧ turnI G (lmGet M x) * G ≤ nw
  nd : S.Nodup
  pw : S.Pairwise (leT G M)
def goE (now nw : Int) : Int := if goOk now nw then 0 else 15
def goN (now nw : Int) : Int := if goOk now nw then nw else now
theorem wj_go (h : WJ w base g bm g2 G n1 M1 n2 M2) (hG : 1 ≤ G ∧ G ≤ 1024) (hn : 0 ≤ n1) (nw : Int) (hbase : base ≤ w.heap.size) :
    Calls Try.prog 14 #[.pointer (some ⟨g, 0, none⟩), .int .i64 nw] w fun e w' => ∃ (B : Option Addr) (q : Nat) (S : List Int), e = .returned (.tuple #[.slice B S.length q, .int .i64 (goE n1 nw)]) ∧ GoS G n1 nw M1 S ∧ Reads w' w'.heap.size 1 B S.length (S.map (.int .i64)) ∧ (∀ b, InB B b → b ≠ g2) ∧ WJ w' base g bm g2 G (goN n1 nw) (delAll M1 S) n2 M2 ∧ Below base w w' := by
  obtain ⟨R, A, C, T, Z, P, c, Q, d, h1, h2, h3, h4, h5, h6⟩ := h
  unfold goE goN
  cases hs : goOk n1 nw
  · have hk := hs
    unfold goOk at hk
    rw [decide_eq_false_iff_not] at hk
    refine (wheel_go_no h1 (by omega) nw (by omega)).mono ?_
    rintro e w' ⟨rfl, hb⟩
    exact ⟨none, 0, [], rfl, ⟨fun _ => rfl, fun e => (by rw [hs] at e; cases e), List.nodup_nil, List.Pairwise.nil⟩, ⟨rfl, fun h => absurd h (by decide)⟩, fun b hb => absurd hb inB_none, ⟨R, A, C, T, Z, P, c, Q, d, h1.call hb, h2, h3, h4.call hb, h5, h6⟩, hb.mono hbase⟩
  · have hk := hs
    unfold goOk at hk
    rw [decide_eq_true_eq] at hk
    refine (wheel_go_mem h1 h2 h3 hG hn nw hk hbase).mono ?_
    rintro e w' ⟨B, q, S, R', T', Z', rfl, k1, k2, k3, k4, k5, k6, k7, k8, k9⟩
    refine ⟨B, q, S, rfl, ⟨fun e => (by rw [hs] at e; cases e), fun _ => k1, k2, k3⟩, k4, fun b hb => ?_, ⟨R', A, C, T', Z', P, c, Q, d, k6, k7, k8, h4.chg k9 fun b hr hF => h5 b hF hr, h5, h6⟩, h1.below_of k9⟩
    have h7 := k5 b hb
    have h8 := h4.lt (.inl rfl)
    omega
theorem setOk_due {id due : Int} (h : setOk id due = true) : 0 ≤ id ∧ id ≤ 4095 ∧ 0 ≤ due ∧ due ≤ 2199023255552 := by
  unfold setOk at h
  simpa using h
theorem wj_rset (h : WJ w base g bm g2 G n1 M1 n2 M2) (id due : Int) (hM : M2.length ≤ 100000) :
    Calls Try.prog 9 #[.pointer (some ⟨g2, 0, none⟩), .int .i64 id, .int .i64 due] w fun e w' => e = .returned (.bool (setOk id due)) ∧ WJ w' base g bm g2 G n1 M1 n2 (setMW M2 id due) ∧ Below base w w' := by
  obtain ⟨R, A, C, T, Z, P, c, Q, d, h1, h2, h3, h4, h5, h6⟩ := h
  unfold setMW
  cases hs : setOk id due
  · refine (refwheel_set_no g2 w id due hs).mono ?_
    rintro e w' ⟨rfl, rfl⟩
    exact ⟨rfl, ⟨R, A, C, T, Z, P, c, Q, d, h1, h2, h3, h4, h5, h6⟩, Below.refl _ _⟩
  · have hk := setOk_due hs
    obtain ⟨n, rfl⟩ : ∃ n : Nat, id = (n : Int) := ⟨id.toNat, by omega⟩
    refine (refwheel_set h4 hM n (by omega) due (by omega)).mono ?_
    rintro e w' ⟨rfl, P', c', Q', d', k1, k2, k3⟩
    refine ⟨rfl, ⟨R, A, C, T, Z, P', c', Q', d', h1.chg k3 (fun b e hF => by have e2 : b = g2 := e; subst e2; exact h5 _ hF (.inl rfl)), h2, h3, k1, fun b hF hr => ?_, h6⟩, k3.below (fun b hb e => by have e2 : b = g2 := e; omega) (by have := h1.gb; have := h1.blk.lt; omega)⟩
    rcases hr with rfl | hr
    · exact h5 _ hF (.inl rfl)
    · have := k2 b hr
      have := (h1.whF_lt hF).2
      omega
theorem wj_runset (h : WJ w base g bm g2 G n1 M1 n2 M2) (id : Int) (hM : M2.length ≤ 100000) :
    Calls Try.prog 11 #[.pointer (some ⟨g2, 0, none⟩), .int .i64 id] w fun e w' => e = .returned (.bool (lmHas M2 id)) ∧ WJ w' base g bm g2 G n1 M1 n2 (lmDel M2 id) ∧ Below base w w' := by
  obtain ⟨R, A, C, T, Z, P, c, Q, d, h1, h2, h3, h4, h5, h6⟩ := h
  refine (refwheel_unset h4 hM id).mono ?_
  rintro e w' ⟨rfl, P', c', Q', d', k1, k2, k3⟩
  refine ⟨rfl, ⟨R, A, C, T, Z, P', c', Q', d', h1.chg k3 (fun b e hF => by have e2 : b = g2 := e; subst e2; exact h5 _ hF (.inl rfl)), h2, h3, k1, fun b hF hr => ?_, h6⟩, k3.below (fun b hb e => by have e2 : b = g2 := e; omega) (by have := h1.gb; have := h1.blk.lt; omega)⟩
  rcases hr with rfl | hr
  · exact h5 _ hF (.inl rfl)
  · have := k2 b hr
    have := (h1.whF_lt hF).2
    omega
theorem wj_rdue (h : WJ w base g bm g2 G n1 M1 n2 M2) (id : Int) (hM : M2.length ≤ 100000) :
    Calls Try.prog 13 #[.pointer (some ⟨g2, 0, none⟩), .int .i64 id] w fun e w' => e = .returned (.tuple #[.int .i64 (lmGet M2 id), .bool (lmHas M2 id)]) ∧ w = w' := by
  obtain ⟨R, A, C, T, Z, P, c, Q, d, h1, h2, h3, h4, h5, h6⟩ := h
  exact refwheel_due h4 hM id
theorem wj_cells (h : WJ w base g bm g2 G n1 M1 n2 M2) : w.cell? ⟨g2, 1, none⟩ = some (.int .i64 n2) ∧ ∃ P c, w.cell? ⟨g2, 2, none⟩ = some (.slice P M2.length c) := by
  obtain ⟨R, A, C, T, Z, P, c, Q, d, h1, h2, h3, h4, h5, h6⟩ := h
  exact ⟨h4.cells.2.1, P, c, h4.cells.2.2.1⟩
theorem wj_rgo (h : WJ w base g bm g2 G n1 M1 n2 M2) (hG : 1 ≤ G ∧ G ≤ 1024) (nw : Int) (hM : M2.length ≤ 100000) (hs : lmSorted M2) (hid : ∀ x ∈ M2, 0 ≤ x.2 ∧ x.2 ≤ 2199023255552) {S : List Int} (hS : GoS G n2 nw M2 S) :
    Calls Try.prog 15 #[.pointer (some ⟨g2, 0, none⟩), .int .i64 nw] w fun e w' => ∃ (B : Option Addr) (q : Nat), e = .returned (.tuple #[.slice B S.length q, .int .i64 (goE n2 nw)]) ∧ Reads w' w'.heap.size 1 B S.length (S.map (.int .i64)) ∧ WJ w' base g bm g2 G n1 M1 (goN n2 nw) (delAll M2 S) ∧ Chg (· = g2) w w' ∧ Below base w w' := by
  obtain ⟨R, A, C, T, Z, P, c, Q, d, h1, h2, h3, h4, h5, h6⟩ := h
  unfold goE goN
  cases hk : goOk n2 nw
  · have hk2 := hk
    unfold goOk at hk2
    rw [decide_eq_false_iff_not] at hk2
    refine (refwheel_go_no h4 nw (by omega)).mono ?_
    rintro e w' ⟨rfl, rfl⟩
    obtain rfl := hS.no hk
    exact ⟨none, 0, rfl, ⟨rfl, fun h => absurd h (by decide)⟩, ⟨R, A, C, T, Z, P, c, Q, d, h1, h2, h3, h4, h5, h6⟩, Chg.refl _ _, Below.refl _ _⟩
  · have hk2 := hk
    unfold goOk at hk2
    rw [decide_eq_true_eq] at hk2
    refine (refwheel_go h4 hs hid hM hG nw hk2).mono ?_
    rintro e w' ⟨B, q, D, P', c', Q', d', rfl, k1, k2, k3, k4, k5, k6⟩
    obtain rfl : S = D := k2.done hs k3 (hS.mem hk) hS.nd hS.pw
    have hr := k1.ints
    refine ⟨B, q, rfl, hr, ⟨R, A, C, T, Z, P', c', Q', d', h1.chg k6 (fun b e hF => by have e2 : b = g2 := e; subst e2; exact h5 _ hF (.inl rfl)), h2, h3, k4, fun b hF hr => ?_, h6⟩, k6, k6.below (fun b hb e => by have e2 : b = g2 := e; omega) (by have := h1.gb; have := h1.blk.lt; omega)⟩
    rcases hr with rfl | hr
    · exact h5 _ hF (.inl rfl)
    · rcases k5 b hr with h7 | h7
      · have := (h1.whF_lt hF).2
        omega
      · exact h5 _ hF (.inr h7)
theorem wj_new (G : Int) (w : World) {w1 w2 : World} {g bm g2 : Nat} {Z : Array Value} (h1 : WhAt w1 w.heap.size g bm G 0 [] (fun _ => []) (fun _ => none) (fun _ => 0) (fun _ => 0) Z) (h2 : RWhAt w2 w1.heap.size G 0 [] none 0 none 0) (hb : Below w1.heap.size w1 w2) (he : g2 = w1.heap.size) : WJ w2 w.heap.size g bm g2 G 0 [] 0 [] := by
  subst he
  refine ⟨_, _, _, _, Z, none, 0, none, 0, h1.call hb, RowInv.none, wInv.none _ _ _, h2, fun b hF hr => ?_, by have := h1.gb; have := h1.blk.lt; omega⟩
  have h5 := (h1.whF_lt hF).2
  rcases hr with rfl | hr | hr
  · omega
  · exact inB_none hr
  · exact inB_none hr
end
/-- What the steps leave: the time and what is due. -/
def wStep (s : WStp) (x : Int × LM) (S : List Int) : Int × LM :=
  if s.kind = 0 then (x.1, setMW x.2 s.id s.n) else if s.kind = 1 then (x.1, lmDel x.2 s.id) else if s.kind = 2 then x else (goN x.1 s.n, delAll x.2 S)
theorem setMW_sorted {M : LM} (h : lmSorted M) (id due : Int) : lmSorted (setMW M id due) := by
  unfold setMW
  split
  · exact lmPut_sorted h id due
  · exact h
theorem setMW_len (M : LM) (id due : Int) : (setMW M id due).length ≤ M.length + 1 := by
  unfold setMW
  split
  · exact lmPut_length M id due
  · omega
theorem goN_rng {now nw : Int} (h : 0 ≤ now ∧ now ≤ 1099511627776) : 0 ≤ goN now nw ∧ goN now nw ≤ 1099511627776 := by
  unfold goN goOk
  split
  · next h2 =>
    rw [decide_eq_true_eq] at h2
    omega
  · exact h
end Go.Proofs.Ytfpepgeaaadpdaa
