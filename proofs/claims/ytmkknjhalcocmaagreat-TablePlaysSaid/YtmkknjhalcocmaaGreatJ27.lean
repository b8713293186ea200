/- table: the document's table goes on; its parts and how they are put back; gone. table: the document's gone. -/
import Derived.Test.YtmkknjhalcocmaaGreatJ26
namespace Go.Proofs.YtmkknjhalcocmaaGreat
open Go Go.RowKit Go.Deep Go.Maps Go.ChangeMaps

/-- The document's table goes on, its blocks of old or new. -/
def DTo (w w' : World) (g n : Nat) (b : Int) (c : TCfg) (d : DTs) (X : Nat → Prop) : Prop :=
  ∃ X', DTabP w' g n b c d X' ∧ Chg X w w' ∧ ∀ y, X' y → X y ∨ w.heap.size ≤ y
section
variable {w w' w1 w2 : World} {g n : Nat} {b : Int} {c : TCfg} {d d' : DTs} {X F : Nat → Prop}
theorem DTo.of (h : DTabP w1 g n b c d X) (k : Chg X w w1) : DTo w w1 g n b c d X := ⟨X, h, k, fun _ h => .inl h⟩
theorem DTo.trans (t : DTo w w1 g n b c d X) (k : ∀ X1, DTabP w1 g n b c d X1 → DTo w1 w2 g n b c d' X1) : DTo w w2 g n b c d' X := by
  obtain ⟨X1, h1, h2, h3⟩ := t
  obtain ⟨X2, k1, k2, k3⟩ := k X1 h1
  have hz := h2.size
  refine ⟨X2, k1, h2.trans k2 fun y hy hx => ?_, fun y hy => ?_⟩
  · rcases h3 y hx with h | h
    · exact h
    · omega
  · rcases k3 y hy with h | h
    · exact h3 y h
    · exact .inr (by omega)
theorem DTo.call (t : DTo w w1 g n b c d X) (hb : Below w1.heap.size w1 w2) : DTo w w2 g n b c d X :=
  t.trans fun X1 h1 => ⟨X1, h1.call hb, Chg.of_below hb, fun _ h => .inl h⟩
theorem DTo.ofBelow (h : DTabP w g n b c d X) (hb : Below w.heap.size w w1) : DTo w w1 g n b c d X := (DTo.of h (Chg.refl _ _)).call hb
/-- A world in which the table is known. -/
theorem DTo.get (t : DTo w w1 g n b c d X) : ∃ X1, DTabP w1 g n b c d X1 := by
  obtain ⟨X1, h1, -⟩ := t
  exact ⟨X1, h1⟩
theorem DTabP.wheel (h : DTabP w g n b c d X) : ∃ wg Y, w.cell? ⟨g, 6, none⟩ = some (.pointer (some ⟨wg, 0, none⟩)) ∧ RWheelP w wg c.G d.now d.M Y ∧ ∀ (w' : World) (now' : Int) (M' : LM) (Y' : Nat → Prop), RWheelP w' wg c.G now' M' Y' → Chg Y w w' → (∀ y, Y' y → Y y ∨ w.heap.size ≤ y) → DTo w w' g n b c { d with now := now', M := M' } X := by
  have hlt := fun x (hx : X x) => h.lt hx
  obtain ⟨fs, wg, gb, F', Y, A, q, h1, h2, h3, h4, h5, h6, h7, h8, h9, h10, h11⟩ := h
  refine ⟨wg, Y, h1.cell 6, h3, fun w' now' M' Y' k1 k2 k3 => ?_⟩
  have hY : ∀ y, Y y → X y := fun y hy => (h6 y).2 (.inr (.inr (.inr (.inr hy))))
  have hnew : ∀ y, X y → ¬ Y y → ¬ Y' y := fun y hx hn hy => (k3 y hy).elim hn fun h => by have := hlt y hx; omega
  have gX : X g := (h6 g).2 (.inl rfl)
  have gbX : X gb := (h6 gb).2 (.inr (.inl rfl))
  have gY : ¬ Y g := fun hy => (h8 g (.inr hy)).1 rfl
  have gbY : ¬ Y gb := fun hy => (h8 gb (.inr hy)).2.1 rfl
  have AY : ∀ y, InB A y → ¬ Y y := fun y hi hy => (h8 y (.inr hy)).2.2 hi
  refine ⟨fun x => x = g ∨ x = gb ∨ InB A x ∨ F' x ∨ Y' x, ⟨fs, wg, gb, F', Y', A, q, h1.chg k2 gY, h2.chg k2 h7, k1, h4.chg k2 AY, rowIs_chg h5 k2 gbY, fun x => Iff.rfl, fun x hx => hnew x ((h6 x).2 (.inr (.inr (.inr (.inl hx))))) (h7 x hx), fun x hx => ?_, h9, h10, h11⟩, k2.mono fun y _ hy => hY y hy, fun y hy => ?_⟩
  · rcases hx with hx | hx
    · exact h8 x (.inl hx)
    · refine ⟨?_, ?_, fun hi => hnew x ((h6 x).2 (.inr (.inr (.inl hi)))) (AY x hi) hx⟩
      · rintro rfl
        exact hnew _ gX gY hx
      · rintro rfl
        exact hnew _ gbX gbY hx
  · rcases hy with rfl | rfl | hy | hy | hy
    · exact .inl gX
    · exact .inl gbX
    · exact .inl ((h6 y).2 (.inr (.inr (.inl hy))))
    · exact .inl ((h6 y).2 (.inr (.inr (.inr (.inl hy)))))
    · exact (k3 y hy).imp (hY y) id
theorem DTabP.stack (h : DTabP w g n b c d X) : ∃ fs F, w.cell? ⟨g, 5, none⟩ = some (.pointer (some ⟨fs, 0, none⟩)) ∧ RefP w fs n d.L F ∧ ∀ (w' : World) (L' : List Int) (F' : Nat → Prop), RefP w' fs n L' F' → Chg F w w' → (∀ y, F' y → F y ∨ w.heap.size ≤ y) → DTo w w' g n b c { d with L := L' } X := by
  have hlt := fun x (hx : X x) => h.lt hx
  obtain ⟨fs, wg, gb, F', Y, A, q, h1, h2, h3, h4, h5, h6, h7, h8, h9, h10, h11⟩ := h
  refine ⟨fs, F', h1.cell 5, h2, fun w' L' F2 k1 k2 k3 => ?_⟩
  have hY : ∀ y, F' y → X y := fun y hy => (h6 y).2 (.inr (.inr (.inr (.inl hy))))
  have hnew : ∀ y, X y → ¬ F' y → ¬ F2 y := fun y hx hn hy => (k3 y hy).elim hn fun h => by have := hlt y hx; omega
  have gX : X g := (h6 g).2 (.inl rfl)
  have gbX : X gb := (h6 gb).2 (.inr (.inl rfl))
  have gY : ¬ F' g := fun hy => (h8 g (.inl hy)).1 rfl
  have gbY : ¬ F' gb := fun hy => (h8 gb (.inl hy)).2.1 rfl
  have AY : ∀ y, InB A y → ¬ F' y := fun y hi hy => (h8 y (.inl hy)).2.2 hi
  have YF : ∀ y, Y y → ¬ F' y := fun y hy hf => h7 y hf hy
  refine ⟨fun x => x = g ∨ x = gb ∨ InB A x ∨ F2 x ∨ Y x, ⟨fs, wg, gb, F2, Y, A, q, h1.chg k2 gY, k1, h3.chg k2 YF, h4.chg k2 AY, rowIs_chg h5 k2 gbY, fun x => Iff.rfl, fun x hx hy => hnew x ((h6 x).2 (.inr (.inr (.inr (.inr hy))))) (YF x hy) hx, fun x hx => ?_, h9, h10, h11⟩, k2.mono fun y _ hy => hY y hy, fun y hy => ?_⟩
  · rcases hx with hx | hx
    · refine ⟨?_, ?_, fun hi => hnew x ((h6 x).2 (.inr (.inr (.inl hi)))) (AY x hi) hx⟩
      · rintro rfl
        exact hnew _ gX gY hx
      · rintro rfl
        exact hnew _ gbX gbY hx
    · exact h8 x (.inr hx)
  · rcases hy with rfl | rfl | hy | hy | hy
    · exact .inl gX
    · exact .inl gbX
    · exact .inl ((h6 y).2 (.inr (.inr (.inl hy))))
    · exact (k3 y hy).imp (hY y) id
    · exact .inl ((h6 y).2 (.inr (.inr (.inr (.inr hy)))))
/-- A generation anew. -/
theorem DTabP.setGen (h : DTabP w g n b c d X) (i : Nat) (v : Int) {gb : Nat} (hc : w.cell? ⟨g, 8, none⟩ = some (.slice (some ⟨gb, 0, none⟩) n n)) : DTabP (w.setCell ⟨gb, i, none⟩ (.int .u64 v)) g n b c { d with gen := fun k => if k = i then v else d.gen k } X ∧ Chg X w (w.setCell ⟨gb, i, none⟩ (.int .u64 v)) := by
  obtain ⟨fs, wg, gb', F', Y, A, q, h1, h2, h3, h4, h5, h6, h7, h8, h9, h10, h11⟩ := h
  have c8 : w.cell? ⟨g, 8, none⟩ = some (.slice (some ⟨gb', 0, none⟩) n n) := h1.cell 8
  obtain rfl : gb' = gb := by
    rw [c8] at hc
    simpa using hc
  have k : Chg (· = gb') w (w.setCell ⟨gb', i, none⟩ (.int .u64 v)) := Chg.setCell (F := (· = gb')) (p := ⟨gb', i, none⟩) (Chg.refl _ _) (fun _ => rfl) _
  refine ⟨⟨fs, wg, gb', F', Y, A, q, h1.chg k (fun e => h9 e), h2.chg k (fun x hx e => (h8 x (.inl hx)).2.1 e), h3.chg k (fun x hx e => (h8 x (.inr hx)).2.1 e), h4.chg k (fun x hx e => (h10 x hx).2 e), (h5.set i (.int .u64 v)).congr fun j hj => ?_, h6, h7, h8, h9, h10, h11⟩, k.mono fun x _ e => by have e2 : x = gb' := e; exact (h6 x).2 (.inr (.inl e2))⟩
  by_cases e : j = i <;> simp [e]
theorem dtab_unset (h : DTabP w g n b c d X) (hM : d.M.length ≤ 100000) (id : Int) : ∃ wg, w.cell? ⟨g, 6, none⟩ = some (.pointer (some ⟨wg, 0, none⟩)) ∧ Calls Tryz.prog 77 #[.pointer (some ⟨wg, 0, none⟩), .int .i64 id] w fun e w' => e = .returned (.bool (lmHas d.M id)) ∧ DTo w w' g n b c { d with M := lmDel d.M id } X := by
  obtain ⟨wg, Y, h1, h2, h3⟩ := h.wheel
  refine ⟨wg, h1, (rwheelp_unset h2 hM id).mono ?_⟩
  rintro e w' ⟨rfl, Y', k1, k2, k3⟩
  exact ⟨rfl, h3 w' _ _ Y' k1 k2 k3⟩
theorem dtab_set (h : DTabP w g n b c d X) (hM : d.M.length ≤ 100000) (i : Nat) (hi : i < 4096) (due : Int) (hd : 0 ≤ due ∧ due ≤ 2199023255552) : ∃ wg, w.cell? ⟨g, 6, none⟩ = some (.pointer (some ⟨wg, 0, none⟩)) ∧ Calls Tryz.prog 52 #[.pointer (some ⟨wg, 0, none⟩), .int .i64 (i : Int), .int .i64 due] w fun e w' => e = .returned (.bool true) ∧ DTo w w' g n b c { d with M := lmPut d.M i due } X := by
  obtain ⟨wg, Y, h1, h2, h3⟩ := h.wheel
  refine ⟨wg, h1, (rwheelp_set h2 i hi due hd hM).mono ?_⟩
  rintro e w' ⟨rfl, Y', k1, k2, k3⟩
  exact ⟨rfl, h3 w' _ _ Y' k1 k2 k3⟩
theorem dtab_pop (h : DTabP w g n b c d X) (hL : d.L.length ≤ 1000000) : ∃ fs, w.cell? ⟨g, 5, none⟩ = some (.pointer (some ⟨fs, 0, none⟩)) ∧ Calls Tryz.prog 48 #[.pointer (some ⟨fs, 0, none⟩)] w fun e w' => e = .returned (.tuple #[.int .i64 (d.L.headD 0), .bool (!d.L.isEmpty)]) ∧ DTo w w' g n b c { d with L := d.L.tail } X := by
  obtain ⟨fs, F, h1, h2, h3⟩ := h.stack
  refine ⟨fs, h1, (refpop fs n d.L F w h2 hL).mono ?_⟩
  rintro e w' ⟨rfl, k1, k2⟩
  exact ⟨rfl, h3 w' _ F k1 k2 fun y hy => .inl hy⟩
theorem dtab_push (h : DTabP w g n b c d X) (hL : d.L.length ≤ 1000000) (i : Int) : ∃ fs, w.cell? ⟨g, 5, none⟩ = some (.pointer (some ⟨fs, 0, none⟩)) ∧ Calls Tryz.prog 80 #[.pointer (some ⟨fs, 0, none⟩), .int .i64 i] w fun e w' => e = .returned (.bool (pushOk n d.L i)) ∧ DTo w w' g n b c { d with L := pushL n d.L i } X := by
  obtain ⟨fs, F, h1, h2, h3⟩ := h.stack
  refine ⟨fs, h1, (refpush_any fs n d.L F i w h2 hL).mono ?_⟩
  rintro e w' ⟨rfl, Y', k1, k2, k3⟩
  exact ⟨rfl, h3 w' _ Y' k1 k2 k3⟩
end
end Go.Proofs.YtmkknjhalcocmaaGreat

namespace Go.Proofs.YtmkknjhalcocmaaGreat
open Go Go.RowKit Go.Deep Go.Maps Go.ChangeMaps

/-- A slot's entry goes. -/
def goneD (n : Nat) (d : DTs) (i : Nat) : DTs := { d with M := lmDel d.M i, L := pushL n d.L i, LL := delL d.LL i, gen := fun k => if k = i then IntKind.u64.wrap (d.gen i + 1) else d.gen k }
theorem delL_take {L : List Slt} {i : Int} {k : Nat} (hk : k < L.length) : delL (L.take (k + 1)) i = if L[k].sl = i then delL (L.take k) i else delL (L.take k) i ++ [L[k]] := by
  unfold delL
  rw [List.take_succ_eq_append_getElem hk, List.filter_append]
  by_cases e : L[k].sl = i
  · rw [if_pos e, List.filter_cons_of_neg (by simpa using e)]
    simp
  · rw [if_neg e, List.filter_cons_of_pos (by simpa using e)]
    simp
theorem delL_len (L : List Slt) (i : Int) : (delL L i).length ≤ L.length := List.length_filter_le _ _
section
variable {w w' w1 w2 : World} {g n : Nat} {b : Int} {c : TCfg} {d d' : DTs} {X X1 X2 F : Nat → Prop}
/-- How the blocks go on. -/
def XTo (w w1 : World) (X X1 : Nat → Prop) : Prop := Chg X w w1 ∧ ∀ y, X1 y → X y ∨ w.heap.size ≤ y
theorem XTo.trans (h : XTo w w1 X X1) (k : XTo w1 w2 X1 X2) : XTo w w2 X X2 := by
  have hz := h.1.size
  refine ⟨h.1.trans k.1 fun y hy hx => ?_, fun y hy => ?_⟩
  · rcases h.2 y hx with h | h
    · exact h
    · omega
  · rcases k.2 y hy with h' | h'
    · exact h.2 y h'
    · exact .inr (by omega)
theorem XTo.of (k : Chg X w w1) : XTo w w1 X X := ⟨k, fun _ h => .inl h⟩
theorem XTo.call (hb : Below w.heap.size w w1) : XTo w w1 X X := ⟨Chg.of_below hb, fun _ h => .inl h⟩
theorem DTo.mk (h : DTabP w1 g n b c d X1) (k : XTo w w1 X X1) : DTo w w1 g n b c d X := ⟨X1, h, k⟩
set_option maxRecDepth 100000 in
set_option maxHeartbeats 8000000 in
theorem dtab_gone (h : DTabP w g n b c d X) (hl : d.LL.length ≤ 4096) (hM : d.M.length ≤ 100000) (hL : d.L.length ≤ 1000000) (i : Nat) (hi : i < n) :
    Calls Tryz.prog 57 #[.pointer (some ⟨g, 0, none⟩), .int .i64 (i : Int)] w fun e w' => e = .returned (.tuple #[]) ∧ DTo w w' g n b c (goneD n d i) X := by
  have HF := Lib.hid fun (W : World) (hb : Below w.heap.size w W) (A' : Option Addr) (q' : Nat) (LL' : List Slt) (B : Nat) (hO : OwnE W B A' q' LL') (hB : w.heap.size ≤ B) => h.setLL hb hO hB
  obtain ⟨fs, wg, gb, A, q, -, -, c7, -, -, fz, hO, -, -, hn⟩ := h.cells
  have f7 := fz 7
  unfold goneD
  obtain ⟨now, M, L, LL, gen, lk⟩ := d
  dsimp only at c7 hO hl hM hL HF ⊢
  have hlt0 := block_lt_of_cell c7
  clear h fz
  replace hO := Lib.hid hO
  have FZ := Lib.hid fun W (hW : Below w.heap.size w W) => And.intro ((hW.cell hlt0).trans c7) ((hW.frozen (p := ⟨g, 7, none⟩) hlt0).trans f7)
  clear c7 f7
  go_enter Tryz.func57, Tryz.ntmps57
  go_wp2_with fail
  go_loopw [4, 5] (fun ov iv wr => ∃ (k : Nat) (out : List Slt) (A' : Option Addr) (q' : Nat), k ≤ LL.length ∧ out = delL (LL.take k) i ∧ iv = .int .i64 (k : Nat) ∧ ov = .slice A' out.length q' ∧ OwnE wr w.heap.size A' q' out ∧ Below w.heap.size w wr) (fun _ iv _ => LL.length - (intOf iv).toNat)
  case atStart => exact ⟨0, [], none, 0, by omega, rfl, rfl, rfl, OwnA.nil _ _, Below.refl _ _⟩
  case round =>
    obtain ⟨k, out, A', q', hk, hout, rfl, rfl, hT, hb⟩ := hrel
    have hz := hb.size
    obtain ⟨c7, f7⟩ := FZ.out wr hb
    have hol : out.length ≤ 4096 := by
      rw [hout]
      refine Nat.le_trans (delL_len _ _) ?_
      rw [List.length_take]
      omega
    by_cases hlt : k < LL.length
    · have hlti : (k : Int) < (LL.length : Int) := by omega
      obtain ⟨ad, rfl, hbl, hc⟩ := (hO.out.call hb).reads.rec_at Slt.ent (fun _ => rfl) hlt
      have c11 : wr.cell? ⟨(ad.add (k * 14)).block, (ad.add (k * 14)).off + 11, none⟩ = some (.int .i64 LL[k].sl) := hc 11 _ rfl
      have hst := delL_take (i := (i : Int)) hlt
      rw [← hout] at hst
      obtain ⟨y, hy⟩ : ∃ y, LL[k] = y := ⟨_, rfl⟩
      rw [hy] at c11 hst hc
      clear hy
      replace hc := Lib.hid hc
      replace hT := Lib.hid hT
      obtain ⟨m, hm⟩ : ∃ m, out.length = m := ⟨_, rfl⟩
      rw [hm] at hol
      try rw [hm]
      replace hm := Lib.hid hm
      replace hout := Lib.hid hout
      by_cases e : y.sl = (i : Int)
      · have hne : (y.sl != (i : Int)) = false := by simpa using e
        rw [if_pos e] at hst
        replace hst := Lib.hid hst
        clear e
        generalize y.sl = z at *
        go_wp2_with fail
        go_roundw
        case rel => exact ⟨k + 1, out, A', q', by omega, hst.out.symm, by go_num, by rw [hm.out], hT.out, hb⟩
        case measure => simp [intOf]; omega
      · have hne : (y.sl != (i : Int)) = true := by simpa using e
        rw [if_neg e] at hst
        replace hst := Lib.hid hst
        clear e
        go_wp2_with (first
          | (refine wpList_load_entR rfl (.tmp 32) rfl (ad.add (k * 14)) rfl y hc.out ?_)
          | (at_builtin; refine wpList_push_ent rfl (.tmp 26) (.tmp 34) rfl w.heap.size A' q' out y m hm.out rfl hT.out _ rfl rfl rfl (by have := hm.out; omega) (by omega) ?_; intro A4 a4 w4 hO4 hp4))
        have hb4 := hp4.below hb (by omega) (fun z hz => (hT.out.block hz).1)
        have hml : (out ++ [y]).length = m + 1 := by rw [List.length_append, hm.out]; rfl
        replace hml := Lib.hid hml
        go_roundw
        case rel => exact ⟨k + 1, out ++ [y], A4, a4, by omega, hst.out.symm, by go_num, by rw [hml.out], hO4, hb4⟩
        case measure => simp [intOf]; omega
    · obtain rfl : k = LL.length := by omega
      have hlti : ¬ ((LL.length : Nat) : Int) < (LL.length : Int) := by omega
      rw [List.take_length] at hout
      have hfin := HF.out wr hb A' q' out w.heap.size hT (Nat.le_refl _)
      rw [hout] at hfin
      replace hfin := Lib.hid hfin
      have hol2 : (delL LL i).length = out.length := by rw [hout]
      replace hol2 := Lib.hid hol2
      replace hT := Lib.hid hT
      clear hO FZ HF
      obtain ⟨m, hm⟩ : ∃ m, out.length = m := ⟨_, rfl⟩
      rw [hm] at hol
      try rw [hm]
      replace hm := Lib.hid hm
      replace hout := Lib.hid hout
      go_upto_region 7 with fail
      obtain ⟨X2, h2, k2⟩ := hfin.out
      rw [hol2.out, hm.out] at h2 k2
      generalize wr.setCell ⟨g, 7, none⟩ (.slice A' m q') = w2 at *
      obtain ⟨wg2, c6, UN⟩ := dtab_unset h2 (by exact hM) i
      replace UN := Lib.hid UN
      have k2 : XTo w w2 X X2 := k2
      replace k2 := Lib.hid k2
      clear h2 c7 f7 hb hz hfin
      go_upto_region 8 with (go_at_call 77; (with_reducible refine UN.out.mono ?_); rintro e w3 ⟨rfl, X3, h3, k3⟩)
      obtain ⟨fs3, c5, PU⟩ := dtab_push h3 (by exact hL) i
      have k3 : XTo w w3 X X3 := k2.out.trans k3
      replace PU := Lib.hid PU
      replace k3 := Lib.hid k3
      clear h3 c6 UN k2
      go_upto_region 9 with (go_at_call 80; (with_reducible refine PU.out.mono ?_); rintro e w4 ⟨rfl, X4, h4, k4⟩)
      have k4 : XTo w w4 X X4 := k3.out.trans k4
      obtain ⟨_, _, gb4, _, _, -, -, -, c8, -, fz, -, hG, -, -⟩ := h4.cells
      have cg : w4.cell? ⟨gb4, i, none⟩ = some (.int .u64 (gen i)) := hG.cell hi
      have fg := hG.frozen i
      have hii : (i : Int) < (n : Int) := by omega
      have hi0 : (0 : Int) ≤ (i : Int) := by omega
      obtain ⟨h5, k5⟩ := h4.setGen i (IntKind.u64.wrap (gen i + 1)) c8
      have k5 := k4.trans (XTo.of k5)
      have hr := DTo.mk h5 k5
      replace hr := Lib.hid hr
      replace k4 := Lib.hid k4
      replace k5 := Lib.hid k5
      replace h5 := Lib.hid h5
      replace h4 := Lib.hid h4
      clear c5 PU k3 hG fz
      go_wp2_with fail
      go_end0
      exact ⟨rfl, hr.out⟩
/-- A block of the call's own, made before and filled behind, is none of the table's. -/
theorem DTo.fin {r : Nat} {w3 : World} (hX : ∀ y, X y → y < w.heap.size) (hb : Below w.heap.size w w1) (t : DTo w1 w2 g n b c d X) (k : Chg (· = r) w2 w3) (hr : w.heap.size ≤ r) (hr1 : r < w1.heap.size) : DTo w w3 g n b c d X := by
  obtain ⟨X', h1, h2, h3⟩ := t
  have hz := hb.size
  have hn : ∀ y, X' y → y ≠ r := fun y hx => by
    rcases h3 y hx with h | h
    · have := hX y h
      omega
    · omega
  exact ⟨X', h1.chg k fun y hx e => hn y hx e, ((Chg.of_below hb).trans (G := X) h2 (fun _ _ h => h)).trans (G := (· = r)) k (fun y hb e => by have e2 : y = r := e; omega), fun y hx => (h3 y hx).imp id (fun h => Nat.le_trans hz h)⟩
theorem entB_there {w : World} {r : Nat} {x : Slt} (h : Blk w r 55 x.entA) : w.there r 0 14 := fun j hj => by
  refine ⟨?_, h.frozen _⟩
  have e : x.entA[j]? = x.ent[j]? := List.getElem?_toArray ..
  rw [Nat.zero_add, h.cell j, e, List.getElem?_eq_getElem (show j < x.ent.length from hj)]
  rfl
theorem entB_one (x : Slt) : x.entA.all (·.oneCell') = true := by
  refine all_oneCell_toArray (cs := x.ent) fun u hu => ?_
  unfold Slt.ent at hu
  simp at hu
  rcases hu with rfl | rfl | rfl | rfl | rfl | rfl | rfl | rfl | rfl | rfl | rfl | rfl | rfl | rfl <;> rfl
/-- An entry is stored into a block of its own. -/
theorem wpList_store_entB {ops : Array Oper} {rest : List Oper} {op : Oper} {a : Act} {w : World} {Q : Exit → Act → World → Prop} (hgd : op.guard = none) (hdst : op.dst = none) (x y : Operand) (ho : op.op = .store 55 x y) {r : Nat} {z : Slt} (hB : Blk w r 55 z.entA) (v : Slt) (hx : a.eval x = .pointer (some ⟨r, 0, none⟩)) (hy : a.eval y = .agg v.entA)
    (h : wpList Tryz.prog ops Q rest a (setEnt w r v)) : wpList Tryz.prog ops Q (op :: rest) a w :=
  wpList_store_mid hgd 55 x y ho r 0 v.entA hx hy (entB_there hB) info_entSize (entB_one v) (by rw [hdst]; exact h)
end
end Go.Proofs.YtmkknjhalcocmaaGreat
