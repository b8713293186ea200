/- wheel: the order in which numbers come: by turn, then by number. wheel: numbers sorted by turn, then by number. wheel: plain law: the numbers that come are those whose turn is over, each once. wheel: Go. wheel: Go at a time that may be. wheel: the document's wheel: New, Unset, Due, turn. wheel: the document's Due and Unset. wheel: the document's Set. wheel: the document's Set at a .. -/
import Derived.Test.YtohapcacckapoaaGreatJ31
import Derived.Test.YtohapcacckapoaaGreatJ23
import Derived.Test.YtohapcacckapoaaGreatSortIL
import Derived.Test.YtohapcacckapoaaGreatJ24
import Derived.Shelf.SlSortCmp.NoneTotal
import Derived.Deep.CutRange
import Derived.Deep.CutBlock
import Derived.Test.YtohapcacckapoaaGreatJ8
import Derived.Test.YtohapcacckapoaaGreatJ7
import Derived.Test.YtohapcacckapoaaGreatJ15
import Derived.Deep.RegionHeld3
import Derived.Laws.StructEq
import Derived.Test.YtohapcacckapoaaGreatJ13
import Derived.Deep.RegionWith
namespace Go.Proofs.YtohapcacckapoaaGreat
open Go Go.RowKit Go.Deep Go.Maps Go.ChangeMaps
theorem wcompare_int (x y : Int) (w : World) : Calls Tryz.prog 142 #[.int .i64 x, .int .i64 y] w fun e w' => e = .returned (.int .i64 (cmpI x y)) ∧ w = w' := by
 go_enter Tryz.func142, Tryz.ntmps142
 go_wp2
 all_goals go_ret
 all_goals refine ⟨ret_int ?_, rfl⟩
 all_goals (unfold cmpI; repeat' split) <;> omega
def ordT (G : Int) (M : LM) (x y : Int) : Int := orI (cmpI (turnI G (lmGet M x)) (turnI G (lmGet M y))) (cmpI x y)
section
variable {w : World} {base g bm : Nat} {G now : Int} {M : LM} {R : Nat → List Int} {A : Nat → Option Addr} {C : Nat → Nat} {T : Nat → Int} {Z : Array Value}
set_option maxRecDepth 100000 in
set_option maxHeartbeats 4000000 in
theorem wcmp_dr (h : WhAt w base g bm G now M R A C T Z) (hG : 1 ≤ G ∧ G ≤ 1024) (gv : Nat) (hv : w.cell? ⟨gv, 0, none⟩ = some (.pointer (some ⟨g, 0, none⟩))) (x y : Int) (hx : 0 ≤ x ∧ x ≤ 4095 ∧ 0 ≤ lmGet M x ∧ lmGet M x ≤ 2199023255552) (hy : 0 ≤ y ∧ y ≤ 4095 ∧ 0 ≤ lmGet M y ∧ lmGet M y ≤ 2199023255552) :
  Calls Tryz.prog 140 #[.int .i64 x, .int .i64 y, .pointer (some ⟨gv, 0, none⟩)] w fun e w' => e = .returned (.int .i64 (ordT G M x y)) ∧ Below w.heap.size w w' ∧ w.drawn ≤ w'.drawn := by
 have hkx : (Lit.int .i64 x).wf = true := wf_i64_mk (by omega) (by omega)
 have hky : (Lit.int .i64 y).wf = true := wf_i64_mk (by omega) (by omega)
 have TX : ∀ W, Below w.heap.size w W → Calls Tryz.prog 143 #[.pointer (some ⟨g, 0, none⟩), .int .i64 (lmGet M x)] W fun e w' => e = .returned (.int .i64 (turnI G (lmGet M x))) ∧ Below W.heap.size W w' ∧ W.drawn ≤ w'.drawn := fun W hb => (wheel_turn (h.call hb) hG _ ⟨hx.2.2.1, hx.2.2.2⟩).mono fun e w' ⟨h1, n, h2⟩ => ⟨h1, h2 ▸ below_drewN (Below.refl _ _) n, h2 ▸ Nat.le_add_right _ _⟩
 have TY : ∀ W, Below w.heap.size w W → Calls Tryz.prog 143 #[.pointer (some ⟨g, 0, none⟩), .int .i64 (lmGet M y)] W fun e w' => e = .returned (.int .i64 (turnI G (lmGet M y))) ∧ Below W.heap.size W w' ∧ W.drawn ≤ w'.drawn := fun W hb => (wheel_turn (h.call hb) hG _ ⟨hy.2.2.1, hy.2.2.2⟩).mono fun e w' ⟨h1, n, h2⟩ => ⟨h1, h2 ▸ below_drewN (Below.refl _ _) n, h2 ▸ Nat.le_add_right _ _⟩
 unfold ordT
 have LX := fun W (hb : Below w.heap.size w W) => (h.call hb).map.look hkx
 have LY := fun W (hb : Below w.heap.size w W) => (h.call hb).map.look hky
 have CV : ∀ W, Below w.heap.size w W → W.cell? ⟨gv, 0, none⟩ = some (.pointer (some ⟨g, 0, none⟩)) := fun W hb => (hb.cell (block_lt_of_cell hv)).trans hv
 have CM : ∀ W, Below w.heap.size w W → W.cell? ⟨g, 2, none⟩ = some (.map (some bm)) := fun W hb => (h.call hb).cell h.z2
 generalize lmGet M x = dx at *
 generalize lmGet M y = dy at *
 generalize turnI G dx = tx at *
 generalize turnI G dy = ty at *
 have C1 := fun W => wcompare_int tx ty W
 have C2 := fun W => wcompare_int x y W
 generalize cmpI tx ty = c1 at *
 generalize cmpI x y = c2 at *
 have OR := fun g W h => or_any c1 c2 g W h
 generalize orI c1 c2 = c3 at *
 have hS0 : ∀ W, Below w.heap.size w W → w.drawn ≤ W.drawn → Below w.heap.size w W ∧ w.drawn ≤ W.drawn ∧ W.cell? ⟨gv, 0, none⟩ = some (.pointer (some ⟨g, 0, none⟩)) ∧ W.cell? ⟨g, 2, none⟩ = some (.map (some bm)) ∧ (Instr.lookup 61 (.map (some bm)) (.int .i64 x) false).run Tryz.prog W = .ok (.int .i64 dx) W ∧ (Instr.lookup 61 (.map (some bm)) (.int .i64 y) false).run Tryz.prog W = .ok (.int .i64 dy) W := fun W hb hd => ⟨hb, hd, CV W hb, CM W hb, LX W hb, LY W hb⟩
 have hB : ∀ W, (Below w.heap.size w W ∧ w.drawn ≤ W.drawn ∧ W.cell? ⟨gv, 0, none⟩ = some (.pointer (some ⟨g, 0, none⟩)) ∧ W.cell? ⟨g, 2, none⟩ = some (.map (some bm)) ∧ (Instr.lookup 61 (.map (some bm)) (.int .i64 x) false).run Tryz.prog W = .ok (.int .i64 dx) W ∧ (Instr.lookup 61 (.map (some bm)) (.int .i64 y) false).run Tryz.prog W = .ok (.int .i64 dy) W) → Below w.heap.size w W := fun W h => h.1
 have hD : ∀ W, (Below w.heap.size w W ∧ w.drawn ≤ W.drawn ∧ W.cell? ⟨gv, 0, none⟩ = some (.pointer (some ⟨g, 0, none⟩)) ∧ W.cell? ⟨g, 2, none⟩ = some (.map (some bm)) ∧ (Instr.lookup 61 (.map (some bm)) (.int .i64 x) false).run Tryz.prog W = .ok (.int .i64 dx) W ∧ (Instr.lookup 61 (.map (some bm)) (.int .i64 y) false).run Tryz.prog W = .ok (.int .i64 dy) W) → w.drawn ≤ W.drawn := fun W h => h.2.1
 have hAl : ∀ W o, (Below w.heap.size w W ∧ w.drawn ≤ W.drawn ∧ W.cell? ⟨gv, 0, none⟩ = some (.pointer (some ⟨g, 0, none⟩)) ∧ W.cell? ⟨g, 2, none⟩ = some (.map (some bm)) ∧ (Instr.lookup 61 (.map (some bm)) (.int .i64 x) false).run Tryz.prog W = .ok (.int .i64 dx) W ∧ (Instr.lookup 61 (.map (some bm)) (.int .i64 y) false).run Tryz.prog W = .ok (.int .i64 dy) W) → (fun W => Below w.heap.size w W ∧ w.drawn ≤ W.drawn ∧ W.cell? ⟨gv, 0, none⟩ = some (.pointer (some ⟨g, 0, none⟩)) ∧ W.cell? ⟨g, 2, none⟩ = some (.map (some bm)) ∧ (Instr.lookup 61 (.map (some bm)) (.int .i64 x) false).run Tryz.prog W = .ok (.int .i64 dx) W ∧ (Instr.lookup 61 (.map (some bm)) (.int .i64 y) false).run Tryz.prog W = .ok (.int .i64 dy) W) (W.alloc o) := fun W o h => hS0 _ (below_alloc h.1 o) h.2.1
 have hDr : ∀ W, (Below w.heap.size w W ∧ w.drawn ≤ W.drawn ∧ W.cell? ⟨gv, 0, none⟩ = some (.pointer (some ⟨g, 0, none⟩)) ∧ W.cell? ⟨g, 2, none⟩ = some (.map (some bm)) ∧ (Instr.lookup 61 (.map (some bm)) (.int .i64 x) false).run Tryz.prog W = .ok (.int .i64 dx) W ∧ (Instr.lookup 61 (.map (some bm)) (.int .i64 y) false).run Tryz.prog W = .ok (.int .i64 dy) W) → (fun W => Below w.heap.size w W ∧ w.drawn ≤ W.drawn ∧ W.cell? ⟨gv, 0, none⟩ = some (.pointer (some ⟨g, 0, none⟩)) ∧ W.cell? ⟨g, 2, none⟩ = some (.map (some bm)) ∧ (Instr.lookup 61 (.map (some bm)) (.int .i64 x) false).run Tryz.prog W = .ok (.int .i64 dx) W ∧ (Instr.lookup 61 (.map (some bm)) (.int .i64 y) false).run Tryz.prog W = .ok (.int .i64 dy) W) W.drew := fun W h => hS0 _ h.1.drew (Nat.le_succ_of_le h.2.1)
 replace hAl := Lib.hid hAl
 replace hDr := Lib.hid hDr
 replace hB := Lib.hid hB
 replace hD := Lib.hid hD
 replace hS0 := Lib.hid hS0
 replace TX := Lib.hid TX
 replace TY := Lib.hid TY
 replace C1 := Lib.hid C1
 replace C2 := Lib.hid C2
 replace OR := Lib.hid OR
 have hS1 := hS0.out w (Below.refl _ _) (Nat.le_refl _)
 clear h hx hy hkx hky LX LY CV CM hv
 go_enter Tryz.func140, Tryz.ntmps140
 go_wp2_with fail
 go_region_held3 (fun W => Below w.heap.size w W ∧ w.drawn ≤ W.drawn ∧ W.cell? ⟨gv, 0, none⟩ = some (.pointer (some ⟨g, 0, none⟩)) ∧ W.cell? ⟨g, 2, none⟩ = some (.map (some bm)) ∧ (Instr.lookup 61 (.map (some bm)) (.int .i64 x) false).run Tryz.prog W = .ok (.int .i64 dx) W ∧ (Instr.lookup 61 (.map (some bm)) (.int .i64 y) false).run Tryz.prog W = .ok (.int .i64 dy) W)
  ((first | assumption | exact hAl.out _ _ (by assumption) | exact hDr.out _ (by assumption))) (first
  | (go_at_call 143; (with_reducible refine (TX.out _ (hB.out _ (by assumption))).mono ?_); rintro e w1 ⟨rfl, hb1, hd1⟩; have hS := hS0.out _ (below_chain hb1 (hB.out _ (by assumption))) (Nat.le_trans (hD.out _ (by assumption)) hd1))
  | (go_at_call 143; (with_reducible refine (TY.out _ (hB.out _ (by assumption))).mono ?_); rintro e w1 ⟨rfl, hb1, hd1⟩; have hS := hS0.out _ (below_chain hb1 (hB.out _ (by assumption))) (Nat.le_trans (hD.out _ (by assumption)) hd1))
  | (go_at_call 142; (with_reducible refine (C1.out _).mono ?_); rintro e w1 ⟨rfl, rfl⟩)
  | (go_at_call 142; (with_reducible refine (C2.out _).mono ?_); rintro e w1 ⟨rfl, rfl⟩)
  | (go_at_call 141; refine (OR.out _ _ (Blk.new _ _ _)).mono ?_; rintro e w1 ⟨rfl, rfl⟩))
 all_goals
  go_wp2_with fail
  go_ret
  exact ⟨rfl, by first | exact hB.out _ (by assumption) | exact below_alloc (hB.out _ (by assumption)) _, by first | exact hD.out _ (by assumption)⟩
end
def leT (G : Int) (M : LM) (x y : Int) : Prop := turnI G (lmGet M x) < turnI G (lmGet M y) ∨ turnI G (lmGet M x) = turnI G (lmGet M y) ∧ x ≤ y
abbrev WB (M : LM) := {x : Int // lmHas M x = true}
def wbO (G : Int) (M : LM) (x y : WB M) : Int := ordT G M x.1 y.1
theorem wb_lt {G : Int} {M : LM} (x y : WB M) : ltOf (wbO G M) x y = true ↔ turnI G (lmGet M x.1) < turnI G (lmGet M y.1) ∨ turnI G (lmGet M x.1) = turnI G (lmGet M y.1) ∧ x.1 < y.1 := by
 unfold ltOf wbO ordT orI cmpI
 rw [decide_eq_true_iff]
 split <;> split <;> (try split) <;> (try split) <;> omega
theorem wb_not {G : Int} {M : LM} (x y : WB M) : ltOf (wbO G M) x y = false ↔ leT G M y.1 x.1 := by
 have := wb_lt (G := G) x y
 unfold leT
 cases h : ltOf (wbO G M) x y
 ·
  rw [h] at this
  simp at this
  simp
  omega
 ·
  rw [h] at this
  simp at this
  simp
  omega
theorem swoW (G : Int) (M : LM) : Sort.SWO (ltOf (wbO G M)) where
 irrefl x := by rw [wb_not]; unfold leT; omega
 trans x y z h1 h2 := by rw [wb_lt] at *; omega
 ntrans x y z h1 h2 := by rw [wb_not] at *; unfold leT at *; omega
theorem wb_list {M : LM} : ∀ (l : List Int), (∀ x ∈ l, lmHas M x = true) → ∃ ls : List (WB M), ls.map Subtype.val = l
 | [], _ => ⟨[], rfl⟩
 | x :: r, h => by
  obtain ⟨ls, e⟩ := wb_list r fun y hy => h y (List.mem_cons_of_mem _ hy)
  exact ⟨⟨x, h x (List.mem_cons_self ..)⟩ :: ls, by simp [e]⟩
section
variable {w w' : World} {base g bm : Nat} {G now : Int} {M : LM} {R : Nat → List Int} {A : Nat → Option Addr} {C : Nat → Nat} {T : Nat → Int} {Z : Array Value}
abbrev wcmpFn (gv : Nat) : Value := .func (Fn.func 140) #[] #[.pointer (some ⟨gv, 0, none⟩)]
theorem wsort (h : WhAt w base g bm G now M R A C T Z) (inv : RowInv M R T) (hG : 1 ≤ G ∧ G ≤ 1024) {gv gp cap b0 : Nat} (hv : w.cell? ⟨gv, 0, none⟩ = some (.pointer (some ⟨g, 0, none⟩))) {L : List Int} (hL : ∀ x ∈ L, lmHas M x = true) (hO : OwnI w b0 (some ⟨gp, 0, none⟩) cap L) (hp : ¬ whF g bm A gp) (hpv : gp ≠ gv) (h0 : 0 < L.length) (hl : L.length ≤ 1000000) :
  Calls Tryz.prog 139 #[.slice (some ⟨gp, 0, none⟩) L.length cap, wcmpFn gv] w fun e w' => e = .returned (.tuple #[]) ∧ ∃ S : List Int, S.Perm L ∧ S.Pairwise (leT G M) ∧ Reads w' w'.heap.size 1 (some ⟨gp, 0, none⟩) S.length (S.map (.int .i64)) ∧ Chg (· = gp) w w' := by
 obtain ⟨ls, hls⟩ := wb_list L hL
 have hlen : ls.length = L.length := by rw [← hls, List.length_map]
 have hne : ls ≠ [] := fun e => by rw [e] at hlen; simp at hlen; omega
 obtain ⟨x0, r0, hx0⟩ := List.exists_cons_of_ne_nil hne
 letI : Inhabited (WB M) := ⟨x0⟩
 have hgp : gp < w.heap.size := (hO.block ⟨_, rfl, rfl⟩).2
 rw [← hls] at hO
 have hH := own_holds1 hO
 have eg : ∀ args w, (callFunc 140 args).run Tryz.prog w = .ok (.enter 140 args) w := enters_of Tryz.func140 (by kernel_rfl) rfl
 have hsz0 : ls.toArray.size = L.length := by simp [hlen]
 have hcmp : CmpLays1 Tryz.prog 140 #[.pointer (some ⟨gv, 0, none⟩)] (encI (Subtype.val : WB M → Int)) (wbO G M) gp 0 ls.toArray.size w := by
  intro m os dk hdk x y
  have k := sortW_chg1 (enc := encI (Subtype.val : WB M → Int)) (w := w) (gp := gp) (n := m) (d := dk) (os := os)
  have h2 := h.chg k (fun b e hw => hp (e ▸ hw))
  have hv2 := (cell_chg k (block_lt_of_cell hv) (fun e => hpv e.symm)).trans hv
  have rx := inv.idr _ (lmGet_mem x.2)
  have ry := inv.idr _ (lmGet_mem y.2)
  refine (wcmp_dr h2 hG gv hv2 x.1 y.1 ⟨rx.1, rx.2.1, rx.2.2.1, rx.2.2.2⟩ ⟨ry.1, ry.2.1, ry.2.2.1, ry.2.2.2⟩).mono ?_
  rintro e w' ⟨rfl, hb, hd⟩
  exact ⟨rfl, gr_of1 hb hd⟩
 have K := Any.slices_SortFunc Tryz.sortI (encI (Subtype.val : WB M → Int)) (fun x => rfl) (wbO G M) (swoW G M) 140 #[.pointer (some ⟨gv, 0, none⟩)] gp 0 cap ls.toArray w eg hcmp hH hgp (by rw [hsz0]; omega)
 rw [hsz0] at K
 change Calls Tryz.prog 139 _ _ _ at K
 refine K.mono ?_
 rintro e w' ⟨rfl, d', n, os, hpm, hs, rfl⟩
 have hsz : d'.size = ls.toArray.size := hpm.1
 have hR := holds_reads1 (holds_sortWorld (encI (Subtype.val : WB M → Int)) w gp 0 n ls.toArray d' os hgp hH hsz) (lt_sortWorld (encI (Subtype.val : WB M → Int)) w gp 0 n d' os hgp)
 refine ⟨rfl, d'.toList.map Subtype.val, ?_, ?_, ?_, sortW_chg1⟩
 ·
  have := hpm.2.2
  rw [← hsz0, ← hsz] at this
  have e1 : d'.extract 0 d'.size = d' := by simp
  have e2 : ls.toArray.extract 0 d'.size = ls.toArray := by rw [hsz]; simp
  rw [e1, e2] at this
  have p2 : d'.toList.Perm ls := by simpa using this
  rw [← hls]
  exact p2.map _
 ·
  rw [List.pairwise_iff_getElem]
  intro i j hi hj hij
  have hi' : i < d'.size := by simpa using hi
  have hj' : j < d'.size := by simpa using hj
  have := hs i j (Nat.zero_le _) hij (by omega)
  rw [wb_not] at this
  simpa [hi', hj'] using this
 · simpa using hR
theorem wsort_any (h : WhAt w base g bm G now M R A C T Z) (inv : RowInv M R T) (hG : 1 ≤ G ∧ G ≤ 1024) {gv cap b0 : Nat} {P : Option Addr} (hv : w.cell? ⟨gv, 0, none⟩ = some (.pointer (some ⟨g, 0, none⟩))) {L : List Int} (hL : ∀ x ∈ L, lmHas M x = true) (hO : OwnI w b0 P cap L) (hp : ∀ b, InB P b → ¬ whF g bm A b) (hpv : ¬ InB P gv) (hl : L.length ≤ 1000000) :
  Calls Tryz.prog 139 #[.slice P L.length cap, wcmpFn gv] w fun e w' => e = .returned (.tuple #[]) ∧ ∃ S : List Int, S.Perm L ∧ S.Pairwise (leT G M) ∧ Reads w' w'.heap.size 1 P S.length (S.map (.int .i64)) ∧ Chg (InB P) w w' := by
 by_cases h0 : L.length = 0
 ·
  obtain rfl : L = [] := List.eq_nil_of_length_eq_zero h0
  refine (AnyF.slices_SortFunc_none (P := Tryz.prog) (ρ := Tryz.sortI_ren) { Tryz.sortI with } P cap (wcmpFn gv) w).mono ?_
  rintro e w' ⟨rfl, rfl⟩
  exact ⟨rfl, [], List.Perm.refl _, List.Pairwise.nil, Reads.none_, Chg.refl _ _⟩
 ·
  obtain ⟨gp, cap', hfv, hgp, hgl⟩ := (show w.ownsRow b0 3 1 (.slice P L.length cap) L.length (L.flatMap icell) from hO).form (by omega)
  obtain ⟨rfl, rfl⟩ : P = some ⟨gp, 0, none⟩ ∧ cap = cap' := by
   simp only [Value.slice.injEq] at hfv
   exact ⟨hfv.1, hfv.2.2⟩
  refine (wsort h inv hG hv hL hO (hp _ ⟨_, rfl, rfl⟩) (fun e => hpv ⟨_, rfl, e⟩) (by omega) hl).mono ?_
  rintro e w' ⟨rfl, S, h1, h2, h3, h4⟩
  exact ⟨rfl, S, h1, h2, h3, h4.mono fun b _ e => ⟨_, rfl, e.symm⟩⟩
end
def wInv (G now : Int) (M : LM) (T : Nat → Int) : Prop := ∀ id, lmHas M id = true → ∃ e, T id.toNat = e % 64 + 1 ∧ now / G ≤ e ∧ turnI G (lmGet M id) ≤ e ∧ (e = turnI G (lmGet M id) ∨ e = now / G)
def outL (G now : Int) (M : LM) (R : Nat → List Int) (nw : Int) : Nat → List Int
 | 0 => []
 | m + 1 => outL G now M R nw m ++ comeL G M (R ((now / G + m) % 64).toNat) nw
def cntI (G now nw : Int) : Nat := (min (nw / G) (now / G + 63) - now / G + 1).toNat
theorem turn_le {G t nw : Int} (hG : 1 ≤ G) : t * G ≤ nw ↔ t ≤ nw / G := (Int.le_ediv_iff_mul_le (by omega)).symm
theorem mem_comeL {G : Int} {M : LM} {L : List Int} {nw x : Int} : x ∈ comeL G M L nw ↔ x ∈ L ∧ turnI G (lmGet M x) * G ≤ nw := by
 unfold comeL
 rw [List.mem_filter, decide_eq_true_iff]
theorem mem_outL {G now : Int} {M : LM} {R : Nat → List Int} {nw x : Int} : ∀ {m : Nat}, x ∈ outL G now M R nw m ↔ ∃ i, i < m ∧ x ∈ R ((now / G + i) % 64).toNat ∧ turnI G (lmGet M x) * G ≤ nw
 | 0 => by
  unfold outL
  simp
 | m + 1 => by
  unfold outL
  rw [List.mem_append, mem_outL (m := m), mem_comeL]
  constructor
  ·
   rintro (⟨i, hi, h⟩ | h)
   · exact ⟨i, by omega, h⟩
   · exact ⟨m, by omega, h⟩
  ·
   rintro ⟨i, hi, h⟩
   by_cases e : i = m
   ·
    subst e
    exact .inr h
   · exact .inl ⟨i, by omega, h⟩
theorem out_nodup {G now : Int} {M : LM} {R : Nat → List Int} {T : Nat → Int} (inv : RowInv M R T) (nw : Int) : ∀ m : Nat, m ≤ 64 → (outL G now M R nw m).Nodup
 | 0, _ => List.nodup_nil
 | m + 1, hm => by
  unfold outL
  rw [List.nodup_append]
  refine ⟨out_nodup inv nw m (by omega), (inv.nd _ (by omega)).filter _, fun a ha b hb e => ?_⟩
  subst e
  rw [mem_comeL] at hb
  obtain ⟨i, hi, h1, -⟩ := mem_outL.1 ha
  have q1 := ((inv.mem _ (by omega) a).1 h1).2
  have q2 := ((inv.mem _ (by omega) a).1 hb.1).2
  omega
theorem out_mem {G now nw : Int} {M : LM} {R : Nat → List Int} {T : Nat → Int} (inv : RowInv M R T) (hw : wInv G now M T) (hG : 1 ≤ G) (h0 : 0 ≤ now) (hn : now ≤ nw) (id : Int) : id ∈ outL G now M R nw (cntI G now nw) ↔ lmHas M id = true ∧ turnI G (lmGet M id) * G ≤ nw := by
 have hd0 : 0 ≤ now / G := Int.ediv_nonneg h0 (by omega)
 have hd1 : now / G ≤ nw / G := Int.ediv_le_ediv (by omega) hn
 rw [mem_outL]
 constructor
 ·
  rintro ⟨i, hi, h1, h2⟩
  exact ⟨((inv.mem _ (by omega) id).1 h1).1, h2⟩
 ·
  rintro ⟨h1, h2⟩
  obtain ⟨e, e1, e2, e3, e4⟩ := hw id h1
  have h3 := (turn_le hG).1 h2
  have h4 : e ≤ nw / G := by rcases e4 with e4 | e4 <;> omega
  unfold cntI
  generalize now / G = f at *
  generalize nw / G = l at *
  refine ⟨((e - f) % 64).toNat, by omega, (inv.mem _ (by omega) id).2 ⟨h1, ?_⟩, h2⟩
  rw [e1]
  omega
def delAll (M : LM) : List Int → LM
 | [] => M
 | x :: r => delAll (lmDel M x) r
theorem delAll_append : ∀ (S : List Int) (M : LM) (x : Int), delAll M (S ++ [x]) = lmDel (delAll M S) x
 | [], _, _ => rfl
 | y :: r, M, x => delAll_append r (lmDel M y) x
theorem delAll_take {M : LM} {S : List Int} {k : Nat} (hk : k < S.length) : delAll M (S.take (k + 1)) = lmDel (delAll M (S.take k)) S[k] := by
 rw [List.take_succ_eq_append_getElem hk, delAll_append]
theorem lmHas_delAll {x : Int} : ∀ (S : List Int) (M : LM), lmHas (delAll M S) x = true ↔ lmHas M x = true ∧ x ∉ S
 | [], M => by simp [delAll]
 | y :: r, M => by
  unfold delAll
  rw [lmHas_delAll r, lmHas_del, List.mem_cons]
  constructor
  ·
   rintro ⟨⟨a, b⟩, c⟩
   exact ⟨a, fun e => by rcases e with e | e; exact b e; exact c e⟩
  ·
   rintro ⟨a, b⟩
   exact ⟨⟨a, fun e => b (.inl e)⟩, fun e => b (.inr e)⟩
theorem lmGet_del {M : LM} {id x : Int} (h : x ≠ id) : lmGet (lmDel M id) x = lmGet M x := by
 unfold lmGet lmDel
 rw [List.find?_filter]
 congr 1
 congr 1
 funext p
 by_cases e : p.1 = x
 ·
  have : ¬ p.1 = id := fun e2 => h (e.symm.trans e2)
  simp [e, h]
 · simp [e]
theorem lmGet_delAll {x : Int} : ∀ (S : List Int) (M : LM), x ∉ S → lmGet (delAll M S) x = lmGet M x
 | [], _, _ => rfl
 | y :: r, M, h => by
  unfold delAll
  rw [lmGet_delAll r _ (fun e => h (List.mem_cons_of_mem _ e)), lmGet_del (fun e => h (by rw [e]; exact List.mem_cons_self ..))]
theorem wGet_ins {id v x : Int} (h : x ≠ id) : ∀ (M : LM), lmGet (lmIns (id, v) M) x = lmGet M x
 | [] => by
  have h2 : ¬ id = x := fun e => h e.symm
  unfold lmIns lmGet
  simp [h2]
 | y :: r => by
  have h2 : ¬ id = x := fun e => h e.symm
  have ih := wGet_ins (v := v) h r
  unfold lmIns
  split
  ·
   unfold lmGet
   rw [List.find?_cons_of_neg (by simp [h2])]
  ·
   unfold lmGet at ih ⊢
   by_cases e : y.1 = x
   · rw [List.find?_cons_of_pos (by simp [e]), List.find?_cons_of_pos (by simp [e])]
   ·
    rw [List.find?_cons_of_neg (by simp [e]), List.find?_cons_of_neg (by simp [e])]
    exact ih
theorem wGet_put {M : LM} {id v x : Int} (h : x ≠ id) : lmGet (lmPut M id v) x = lmGet M x := by
 unfold lmPut
 rw [wGet_ins h, lmGet_del h]
theorem wInv.put {G now : Int} {M : LM} {T T' : Nat → Int} (h : wInv G now M T) {n : Nat} {due : Int} (hid : ∀ x ∈ M, 0 ≤ x.1) (hT : T' n = rowI G now due + 1) (ho : ∀ j, j ≠ n → T' j = T j) : wInv G now (lmPut M n due) T' := by
 intro id hh
 by_cases e : id = (n : Int)
 ·
  subst e
  rw [lmGet_put, Int.toNat_natCast, hT]
  unfold rowI
  exact ⟨_, rfl, by omega, by omega, by omega⟩
 ·
  unfold lmPut at hh
  rw [lmHas_ins, lmHas_del] at hh
  have h1 : lmHas M id = true := by
   rcases hh with hh | hh
   · exact absurd hh e
   · exact hh.1
  rw [wGet_put e, ho _ (fun e2 => e (by
   obtain ⟨x, hx, rfl⟩ := lmHas_iff.1 h1
   have := hid x hx
   omega))]
  exact h id h1
theorem wInv.del {G now : Int} {M : LM} {T T' : Nat → Int} (h : wInv G now M T) {n : Nat} (hid : ∀ x ∈ M, 0 ≤ x.1) (ho : ∀ j, j ≠ n → T' j = T j) : wInv G now (lmDel M n) T' := by
 intro id hh
 rw [lmHas_del] at hh
 rw [lmGet_del hh.2, ho _ (fun e2 => hh.2 (by
  obtain ⟨x, hx, rfl⟩ := lmHas_iff.1 hh.1
  have := hid x hx
  omega))]
 exact h id hh.1
theorem wInv.go {G now nw : Int} {M : LM} {T : Nat → Int} (h : wInv G now M T) (hG : 1 ≤ G) (hn : now ≤ nw) (hM : ∀ id, lmHas M id = true → ¬ turnI G (lmGet M id) * G ≤ nw) : wInv G nw M T := by
 intro id hh
 obtain ⟨e, e1, e2, e3, e4⟩ := h id hh
 have h1 := hM id hh
 rw [turn_le hG] at h1
 have hd1 : now / G ≤ nw / G := Int.ediv_le_ediv (by omega) hn
 exact ⟨e, e1, by omega, e3, by omega⟩
theorem leT_eq {G : Int} {M : LM} : ∀ (S D : List Int), S.Pairwise (leT G M) → D.Pairwise (leT G M) → S.Perm D → S = D
 | [], D, _, _, h => (List.nil_perm.1 h).symm
 | x :: r, [], _, _, h => by simpa using h.length_eq
 | x :: r, y :: q, hs, hd, h => by
  rw [List.pairwise_cons] at hs hd
  have e : x = y := by
   have h1 : x ∈ y :: q := h.mem_iff.1 (List.mem_cons_self ..)
   have h2 : y ∈ x :: r := h.mem_iff.2 (List.mem_cons_self ..)
   rcases List.mem_cons.1 h1 with e | h1
   · exact e
   rcases List.mem_cons.1 h2 with e | h2
   · exact e.symm
   have a := hs.1 y h2
   have b := hd.1 x h1
   unfold leT at a b
   omega
  subst e
  rw [leT_eq r q hs.2 hd.2 ((List.perm_cons _).1 h)]
section
variable {w : World} {base g bm : Nat} {G now : Int} {M : LM} {R : Nat → List Int} {A : Nat → Option Addr} {C : Nat → Nat} {T : Nat → Int} {Z : Array Value}
theorem wheel_go_no (h : WhAt w base g bm G now M R A C T Z) (hG : 0 < G) (nw : Int) (hb : nw < now ∨ 1099511627776 < nw) : Calls Tryz.prog 125 #[.pointer (some ⟨g, 0, none⟩), .int .i64 nw] w fun e w' => e = .returned (.tuple #[.slice none 0 0, .int .i64 15]) ∧ Below w.heap.size w w' := by
 have hw := h.call (below_alloc (Below.refl w.heap.size w) (.cells #[.pointer (some ⟨g, 0, none⟩)] 179))
 have GV := Lib.hid (wheel_given hw hG)
 have c1 := hw.cell hw.z1
 clear hw h
 by_cases h1 : nw < now
 ·
  have d1 : decide (nw < now) = true := by simpa using h1
  clear hb
  go_enter Tryz.func125, Tryz.ntmps125
  go_wp2_with fail
  refine GV.out.mono ?_
  rintro e w1 ⟨rfl, rfl⟩
  go_wp2_with fail
  go_ret2
  exact ⟨rfl, below_alloc (Below.refl _ _) _⟩
 ·
  have d1 : decide (nw < now) = false := by simpa using h1
  have h2 : 1099511627776 < nw := by omega
  have d2 : decide (1099511627776 < nw) = true := by simpa using h2
  clear hb
  go_enter Tryz.func125, Tryz.ntmps125
  go_wp2_with fail
  refine GV.out.mono ?_
  rintro e w1 ⟨rfl, rfl⟩
  go_wp2_with fail
  go_ret2
  exact ⟨rfl, below_alloc (Below.refl _ _) _⟩
end
theorem wpList_push_ints {W : World} {ops : Array Oper} {rest : List Oper} {o : Oper} {a : Act} {Q : Exit → Act → World → Prop} (hgd : o.guard = none) (s x : Operand)
  (ho : o.op = .call { callee := .builtin .append, args := #[s, x], argTypes := #[51, 51] })
  (base : Nat) (A : Option Addr) (c : Nat) (l : List Int) (hs : a.eval s = .slice A l.length c) (hown : OwnI W base A c l) (A2 : Option Addr) (c2 : Nat) (l2 : List Int)
  (hx : a.eval x = .slice A2 l2.length c2) (hr : Reads W W.heap.size 1 A2 l2.length (l2.map (.int .i64))) (hl : l.length + l2.length ≤ 1000000) (hbase : base ≤ W.heap.size)
  (h : ∀ A' c' w', OwnI w' base A' c' (l ++ l2) → Pushed W w' A A' → wpList Tryz.prog ops Q rest (a.put o.dst (.slice A' (l ++ l2).length c')) w') : wpList Tryz.prog ops Q (o :: rest) a W := by
 obtain ⟨i0, hi0, hz0, hz1, hz2⟩ := info_parts info_int
 refine wpList_append_sl _ hgd s x 51 ho base 3 i0 _ 1 8 Tryz.underlying51 hi0 hz0 hz1 hz2 rfl (by decide) (.slice A l.length c) l.length (l.flatMap icell) hs hown W.heap.size A2 l2.length c2 (l2.map (.int .i64)) hx hr (fun u hu => by
  obtain ⟨y, -, rfl⟩ := List.mem_map.1 hu
  rfl) (by unfold maxLen; omega) (by omega) hbase ?_
 intro A' c' w' hown' hg' hat
 have hA : ∀ k, (Value.slice A l.length c).ownBlock = some k ↔ InB A k := hown.own_block
 have hO : OwnI w' base A' c' (l ++ l2) := by
  unfold OwnI OwnA
  rw [List.length_append, List.flatMap_append, icell_map l2]
  exact hown'
 rw [← List.length_append]
 refine h A' c' w' hO ⟨?_, ?_⟩
 · exact (Chg.refl _ W).grown hg' (fun k hk _ => (hA k).1 hk)
 ·
  intro b hb
  have e1 : (Value.slice A' (l.length + l2.length) c').ownBlock = some b := by
   have := (hO.own_block b).2 hb
   simpa [Value.ownBlock] using this
  rcases hat with h2 | h2
  ·
   rw [h2] at e1
   exact .inl ((hA b).1 e1)
  ·
   rw [h2] at e1
   simp at e1
   exact .inr (by omega)
theorem outL_len {G now : Int} {M : LM} {R : Nat → List Int} {T : Nat → Int} (inv : RowInv M R T) (nw : Int) (m : Nat) (hm : m ≤ 64) : (outL G now M R nw m).length ≤ 4096 := by
 refine nodup_len 4096 _ (out_nodup inv nw m hm) fun x hx => ?_
 obtain ⟨i, hi, h1, -⟩ := mem_outL.1 hx
 have h2 := ((inv.mem _ (by omega) x).1 h1).1
 have h3 := inv.idr _ (lmGet_mem h2)
 omega
section
variable {w : World} {base g bm : Nat} {G now : Int} {M : LM} {R : Nat → List Int} {A : Nat → Option Addr} {C : Nat → Nat} {T : Nat → Int} {Z : Array Value}
theorem WhAt.setNow (h : WhAt w base g bm G now M R A C T Z) (nw : Int) : WhAt (w.setCell ⟨g, 1, none⟩ (.int .i64 nw)) base g bm G nw M R A C T (Z.setIfInBounds 1 (.int .i64 nw)) := by
 have hc : Chg (· = g) w (w.setCell ⟨g, 1, none⟩ (.int .i64 nw)) := Chg.setCell (F := (· = g)) (p := ⟨g, 1, none⟩) (Chg.refl _ _) (fun _ => rfl) _
 have hz := h.size
 refine ⟨h.blk.set_ 1 _, by simp [hz], ?_, ?_, ?_, fun k hk => ?_, fun k hk => (h.own k hk).chg hc (fun b hb e => (h.row_ne hk hb).1 e), h.apart, fun i hi => ?_, h.map.chg hc (fun e => h.gm e.symm), h.gb, h.mb⟩
 ·
  rw [Array.getElem?_setIfInBounds_ne (by omega)]
  exact h.z0
 · rw [Array.getElem?_setIfInBounds_self_of_lt (by omega)]
 ·
  rw [Array.getElem?_setIfInBounds_ne (by omega)]
  exact h.z2
 ·
  rw [Array.getElem?_setIfInBounds_ne (by omega)]
  exact h.row k hk
 ·
  rw [Array.getElem?_setIfInBounds_ne (by omega)]
  exact h.at_ i hi
set_option maxRecDepth 100000 in
set_option maxHeartbeats 4000000 in
theorem wheel_go (h : WhAt w base g bm G now M R A C T Z) (inv : RowInv M R T) (hw : wInv G now M T) (hG : 1 ≤ G ∧ G ≤ 1024) (hnow : 0 ≤ now) (nw : Int) (hn : now ≤ nw ∧ nw ≤ 1099511627776) (_hbase : base ≤ w.heap.size) :
  Calls Tryz.prog 125 #[.pointer (some ⟨g, 0, none⟩), .int .i64 nw] w fun e w' => ∃ (P : Option Addr) (c : Nat) (S : List Int) (R' : Nat → List Int) (T' : Nat → Int) (Z' : Array Value), e = .returned (.tuple #[.slice P S.length c, .int .i64 0]) ∧ S.Perm (outL G now M R nw (cntI G now nw)) ∧ S.Pairwise (leT G M) ∧
   Reads w' w'.heap.size 1 P S.length (S.map (.int .i64)) ∧ (∀ b, InB P b → w.heap.size ≤ b) ∧ WhAt w' base g bm G nw (delAll M S) R' A C T' Z' ∧ RowInv (delAll M S) R' T' ∧ wInv G nw (delAll M S) T' ∧ Chg (whF g bm A) w w' := by
 obtain ⟨w0, hw0⟩ : ∃ w0, w0 = w.alloc (.cells #[.pointer (some ⟨g, 0, none⟩)] 179) := ⟨_, rfl⟩
 have hb0 : Below w.heap.size w w0 := hw0 ▸ below_alloc (Below.refl _ _) _
 have h0 := h.call hb0
 have hv0 : w0.cell? ⟨w.heap.size, 0, none⟩ = some (.pointer (some ⟨g, 0, none⟩)) := hw0 ▸ (Blk.new w 179 #[.pointer (some ⟨g, 0, none⟩)]).cell 0
 have hz0 : w0.heap.size = w.heap.size + 1 := by rw [hw0]; exact World.size_alloc _ _
 have GV := Lib.hid (wheel_given h0 (by omega))
 have c0 := h0.cell h0.z0
 have c1 := h0.cell h0.z1
 have hlt := h.blk.lt
 have hd1 : decide (nw < now) = false := by simp; omega
 have hd2 : decide (1099511627776 < nw) = false := by simp; omega
 have hzG : (G == 0) = false := by rw [beq_eq_false_iff_ne]; omega
 have hf0 : 0 ≤ now / G := Int.ediv_nonneg hnow (by omega)
 have hf1 : now / G ≤ nw / G := Int.ediv_le_ediv (by omega) hn.1
 have hf2 : nw / G ≤ nw := Int.ediv_le_self _ (by omega)
 have ho_nd := out_nodup (G := G) (now := now) inv nw (cntI G now nw) (by unfold cntI; omega)
 have ho_mem := out_mem inv hw hG.1 hnow hn.1
 obtain ⟨cn, hcn⟩ : ∃ cn, cntI G now nw = cn := ⟨_, rfl⟩
 have hcn2 : min (nw / G) (now / G + 63) - now / G + 1 = (cn : Int) := by rw [← hcn]; unfold cntI; omega
 rw [hcn] at ho_nd ho_mem ⊢
 have hOut : ∀ j, outL G now M R nw (j + 1) = outL G now M R nw j ++ comeL G M (R ((now / G + j) % 64).toNat) nw := fun _ => rfl
 have hOl := fun j (hj : j ≤ 64) => outL_len (G := G) (now := now) inv nw j hj
 obtain ⟨O, hO⟩ : ∃ O, outL G now M R nw = O := ⟨_, rfl⟩
 have hO0 : O 0 = [] := by rw [← hO]; rfl
 rw [hO] at hOut hOl ho_nd ho_mem ⊢
 have hgf : 1 ≤ G := hG.1
 replace hO := Lib.hid hO
 replace hOut := Lib.hid hOut
 replace hcn := Lib.hid hcn
 replace ho_nd := Lib.hid ho_nd
 replace ho_mem := Lib.hid ho_mem
 replace inv := Lib.hid inv
 replace hw := Lib.hid hw
 replace h := Lib.hid h
 replace h0 := Lib.hid h0
 generalize hgv : w.heap.size = gv at *
 go_enter Tryz.func125, Tryz.ntmps125
 go_wp2_with fail
 rw [← hw0]
 clear hw0
 refine GV.out.mono ?_
 rintro e w1 ⟨rfl, rfl⟩
 clear GV
 go_wp2_with fail
 go_quiet (fail)
 have hb1 : Below gv w (w0.drewN nq) := below_drewN hb0 nq
 have hv1 : (w0.drewN nq).cell? ⟨gv, 0, none⟩ = some (.pointer (some ⟨g, 0, none⟩)) := hv0
 have h1 := Lib.hid (h0.out.drewN nq)
 have hz1 : (w0.drewN nq).heap.size = gv + 1 := hz0
 clear hb0 hv0 c0 c1 h0 hz0
 generalize w0.drewN nq = w1 at *
 have hcn64 : cn ≤ 64 := by omega
 have hCM := fun (W : World) (hb : Below w1.heap.size w1 W) (k : Nat) (hk : k < 64) => wheel_come (h1.out.call hb) inv.out hG k hk nw
 replace hG := Lib.hid hG
 replace hCM := Lib.hid hCM
 have hcl : ∀ k : Nat, k < 64 → (comeL G M (R k) nw).length ≤ 4096 := fun k hk => Nat.le_trans (List.length_filter_le _ _) (inv.out.rlen hk)
 generalize now / G = f at *
 generalize nw / G = l at *
 go_wp2_with fail
 go_loopw [8, 9] (fun ov ix wr => ∃ (j : Nat) (P : Option Addr) (p : Nat), j ≤ cn ∧ ix = .int .i64 (f + j) ∧ ov = .slice P (O j).length p ∧ OwnI wr (gv + 1) P p (O j) ∧ Below w1.heap.size w1 wr) (fun _ ix _ => cn - (intOf ix - f).toNat)
 case atStart =>
  refine ⟨0, none, 0, by omega, ?_, by rw [hO0]; rfl, by rw [hO0]; exact OwnA.nil _ _, Below.refl _ _⟩
  simp
 case round =>
  obtain ⟨j, P, p, hj, rfl, rfl, hOo, hb⟩ := hrel
  have hzB := hb.size
  by_cases hlt2 : j < cn
  ·
   have hcmp : decide (f + (j : Int) ≤ min l (f + 63)) = true := by simp; omega
   have hw64 : ∀ x : Int, -1 ≤ x → x ≤ 1099511627776 + 200 → IntKind.i64.wrap x = x := fun x h1 h2 => by
    simp [IntKind.wrap, IntKind.bits, IntKind.signed]
    omega
   obtain ⟨k, hk, hk64⟩ : ∃ k : Nat, (f + (j : Int)) % 64 = (k : Int) ∧ k < 64 := ⟨((f + j) % 64).toNat, by omega, by omega⟩
   have CM := hCM.out wr hb k hk64
   have hO1 := hOut.out j
   rw [hk, Int.toNat_natCast] at hO1
   have hol := hOl j (by omega)
   have hcl1 := hcl k hk64
   generalize comeL G M (R k) nw = cl at *
   replace hO1 := Lib.hid hO1
   replace CM := Lib.hid CM
   have hv2 := (hb.cell (p := ⟨gv, 0, none⟩) (by show gv < w1.heap.size; omega)).trans hv1
   go_wp2_with fail
   refine CM.out.mono ?_
   rintro e w3 ⟨A3, c3, rfl, ho3, hb3⟩
   have hb4 := below_chain hb3 hb
   have hO3 := hOo.call hb3
   have hz3 := hb3.size
   have hr3 := ho3.ints
   clear hOo CM ho3 hb3 hv2
   go_wp2_with (first | (at_builtin; (refine wpList_push_ints rfl (.tmp 52) (.tmp 57) rfl (gv + 1) P p (O j) rfl hO3 A3 c3 cl rfl hr3 (by omega) (by omega) ?_; intro P4 p4 w4 ho4 hp4)))
   have hb5 := hp4.below hb4 (by omega) (fun b hb => by rw [hz1]; exact (hO3.block hb).1)
   rw [← hO1.out] at ho4
   have hln : (O j).length + cl.length = (O (j + 1)).length := by rw [hO1.out, List.length_append]
   go_roundw
   case rel => exact ⟨j + 1, P4, p4, by omega, congrArg (Value.int .i64) (by omega), by rw [hln], ho4, hb5⟩
   case measure => simp [intOf]; omega
  ·
   obtain rfl : j = cn := by omega
   have hWr := h1.out.call hb
   have hv2 := (hb.cell (p := ⟨gv, 0, none⟩) (by show gv < w1.heap.size; omega)).trans hv1
   have hPb : ∀ b, InB P b → gv + 1 ≤ b := fun b hb => (hOo.block hb).1
   have hwF : ∀ b, whF g bm A b → b < gv := fun b hb => by have := (h.out.whF_lt hb).2; omega
   have SO := wsort_any hWr inv.out hG.out hv2 (fun x hx => ((ho_mem.out x).1 hx).1) hOo (fun b hb hF => by have := hPb b hb; have := hwF b hF; omega) (fun hb => by have := hPb _ hb; omega) (by have := hOl j (by omega); omega)
   have hbw : Below gv w wr := hb1.trans (hb.mono (by omega))
   replace SO := Lib.hid SO
   replace hWr := Lib.hid hWr
   clear hv1 h1 hCM hOut hb hb1
   go_wp2_with fail
   refine SO.out.mono ?_
   rintro e w4 ⟨rfl, S, hS1, hS2, hS3, hS4⟩
   have h4 := hWr.out.chg hS4 (fun b hb hF => by have := hPb b hb; have := hwF b hF; omega)
   have hv4 := (cell_chg hS4 (block_lt_of_cell hv2) (fun e => by have : gv + 1 ≤ gv := hPb _ e; omega)).trans hv2
   have hSl := hS1.length_eq
   have hSb : S.length ≤ 4096 := by rw [hSl]; exact hOl j (by omega)
   have hSm : ∀ x, x ∈ S ↔ lmHas M x = true ∧ turnI G (lmGet M x) * G ≤ nw := fun x => hS1.mem_iff.trans (ho_mem.out x)
   have hbw4 : Below gv w w4 := below_chg hbw hS4 (fun b hb e => by have := hPb b e; omega) (by omega)
   have hSn : S.Nodup := hS1.nodup_iff.2 ho_nd.out
   clear SO hv2 hbw
   replace hS1 := Lib.hid hS1
   replace hS2 := Lib.hid hS2
   replace hSm := Lib.hid hSm
   replace hSn := Lib.hid hSn
   replace h4 := Lib.hid h4
   go_wp2_with fail
   go_loopw [64] (fun ix wx => ∃ (k : Nat) (R2 : Nat → List Int) (T2 : Nat → Int) (Z2 : Array Value), k ≤ S.length ∧ ix = .int .i64 (k : Nat) ∧ WhAt wx base g bm G now (delAll M (S.take k)) R2 A C T2 Z2 ∧ RowInv (delAll M (S.take k)) R2 T2 ∧ (∀ n : Nat, (n : Int) ∉ S.take k → T2 n = T n) ∧ Chg (whF g bm A) w4 wx) (fun ix _ => S.length - (intOf ix).toNat)
   case atStart => exact ⟨0, R, T, Z, by omega, rfl, h4.out, inv.out, fun _ _ => rfl, Chg.refl _ _⟩
   case round =>
    obtain ⟨k, R2, T2, Z2, hk, rfl, h5, inv5, hT5, hc5⟩ := hrel
    have hv5 := (cell_chg hc5 (block_lt_of_cell hv4) (fun e => by have : gv < gv := hwF _ e; omega)).trans hv4
    by_cases hk2 : k < S.length
    ·
     have hki : (k : Int) < ((O j).length : Int) := by omega
     obtain ⟨ad, hA, hbl, cx⟩ := (hS3.chg hc5 (fun ad hA hF => by have := hPb _ ⟨ad, hA, rfl⟩; have := hwF _ hF; omega)).int_at hk2
     subst hA
     have hxm : S[k] ∈ S := List.getElem_mem hk2
     have hx1 := ((hSm.out _).1 hxm).1
     have hx2 := inv.out.idr _ (lmGet_mem hx1)
     have hdt := delAll_take (M := M) hk2
     have htk := List.take_succ_eq_append_getElem hk2
     rw [show S.getD k 0 = S[k] by simp [hk2]] at cx
     obtain ⟨n, hn⟩ : ∃ n : Nat, S[k] = (n : Int) := ⟨S[k].toNat, by omega⟩
     rw [hn] at cx hdt htk hx2
     have UN := wheel_unset_any h5 inv5 (by omega) n (by omega)
     rw [← hdt] at UN
     replace UN := Lib.hid UN
     replace hdt := Lib.hid hdt
     replace htk := Lib.hid htk
     replace h5 := Lib.hid h5
     replace inv5 := Lib.hid inv5
     replace hT5 := Lib.hid hT5
     clear hx1 hxm hn
     go_wp2_with fail
     refine UN.out.mono ?_
     rintro e w6 ⟨rfl, R6, T6, Z6, h6, inv6, ht6, -, hc6⟩
     go_wp2_with fail
     go_roundw
     case rel =>
      refine ⟨k + 1, R6, T6, Z6, by omega, by go_num, h6, inv6, fun m hm => ?_, hc5.trans hc6 (fun _ _ h => h)⟩
      rw [htk.out, List.mem_append, List.mem_singleton] at hm
      rw [ht6 m (fun e => hm (.inr (by rw [e]))), hT5.out m (fun e => hm (.inl e))]
     case measure => simp [intOf]; omega
    ·
     obtain rfl : k = S.length := by omega
     have hki : ¬ (S.length : Int) < ((O j).length : Int) := by omega
     rw [List.take_length] at h5 inv5 hT5
     have hR5 := hS3.chg hc5 (fun ad hA hF => by have := hPb _ ⟨ad, hA, rfl⟩; have := hwF _ hF; omega)
     have cg := h5.cell h5.z1
     have fg := h5.blk.frozen 1
     have hgm := h5.blk.lt
     replace hT5 := Lib.hid hT5
     replace h5 := Lib.hid h5
     replace inv5 := Lib.hid inv5
     go_wp2_with fail
     have hcs : Chg (· = g) wr (wr.setCell ⟨g, 1, none⟩ (.int .i64 nw)) := Chg.setCell (F := (· = g)) (p := ⟨g, 1, none⟩) (Chg.refl _ _) (fun _ => rfl) _
     have hwd : wInv G now (delAll M S) T2 := by
      intro id hh
      rw [lmHas_delAll] at hh
      have := inv.out.idr _ (lmGet_mem hh.1)
      obtain ⟨e, e1, e2, e3, e4⟩ := hw.out id hh.1
      rw [lmGet_delAll S M hh.2, hT5.out id.toNat (by rw [show ((id.toNat : Nat) : Int) = id by omega]; exact hh.2)]
      exact ⟨e, e1, e2, e3, e4⟩
     have hwg := hwd.go hgf hn.1 (fun id hh => by
      rw [lmHas_delAll] at hh
      rw [lmGet_delAll S M hh.2]
      exact fun hc => hh.2 ((hSm.out id).2 ⟨hh.1, hc⟩))
     have hbx : Chg (whF g bm A) w wr := (Chg.of_below (hgv ▸ hbw4)).trans hc5 (fun _ _ h => h)
     have hby : Chg (whF g bm A) w (wr.setCell ⟨g, 1, none⟩ (.int .i64 nw)) := Chg.setCell hbx (fun _ => .inl rfl) _
     have hRz := hR5.chg hcs (fun ad hA e => by have := hPb _ ⟨ad, hA, rfl⟩; have : ad.block = g := e; omega)
     have hNow := h5.out.setNow nw
     generalize wr.setCell ⟨g, 1, none⟩ (.int .i64 nw) = wz at *
     have hPb2 : ∀ b, InB P b → gv ≤ b := fun b hb => by have := hPb b hb; omega
     replace hPb2 := Lib.hid hPb2
     replace hRz := Lib.hid hRz
     replace hNow := Lib.hid hNow
     replace hwg := Lib.hid hwg
     replace hby := Lib.hid hby
     go_ret2
     exact ⟨P, p, S, by rw [hSl]; rfl, hS1.out, hS2.out, hRz.out, hPb2.out, R2, T2, ⟨_, hNow.out⟩, inv5.out, hwg.out, hby.out⟩
end
structure RWhAt (w : World) (g : Nat) (G now : Int) (M : LM) (A : Option Addr) (c : Nat) (B : Option Addr) (d : Nat) : Prop where
 blk : Blk w g 177 #[.int .i64 G, .int .i64 now, .slice A M.length c, .slice B M.length d]
 two : Two w 0 A c (pre2 M) B d (post2 M)
 ga : ¬ InB A g
 gb : ¬ InB B g
def rwF (g : Nat) (A B : Option Addr) (b : Nat) : Prop := b = g ∨ InB A b ∨ InB B b
section
variable {w w' : World} {g : Nat} {G now : Int} {M : LM} {A : Option Addr} {c : Nat} {B : Option Addr} {d : Nat}
theorem Two.chg {base : Nat} {L K : List Int} {F : Nat → Prop} (h : Two w base A c L B d K) (k : Chg F w w') (hF : ∀ b, InB A b ∨ InB B b → ¬ F b) : Two w' base A c L B d K :=
 ⟨h.fst.chg k (fun b hb => hF b (.inl hb)), h.snd.chg k (fun b hb => hF b (.inr hb)), h.apart⟩
theorem RWhAt.chg {F : Nat → Prop} (h : RWhAt w g G now M A c B d) (k : Chg F w w') (hF : ∀ b, rwF g A B b → ¬ F b) : RWhAt w' g G now M A c B d :=
 ⟨h.blk.chg k (hF _ (.inl rfl)), h.two.chg k (fun b hb => hF b (.inr hb)), h.ga, h.gb⟩
theorem RWhAt.call (h : RWhAt w g G now M A c B d) (hb : Below w.heap.size w w') : RWhAt w' g G now M A c B d :=
 h.chg (F := fun _ => False) (Chg.of_below hb) (fun _ _ h => h)
theorem RWhAt.lt (h : RWhAt w g G now M A c B d) {b : Nat} (hb : rwF g A B b) : b < w.heap.size := by
 rcases hb with rfl | hb | hb
 · exact h.blk.lt
 · exact (h.two.fst.block hb).2
 · exact (h.two.snd.block hb).2
theorem RWhAt.cells (h : RWhAt w g G now M A c B d) : w.cell? ⟨g, 0, none⟩ = some (.int .i64 G) ∧ w.cell? ⟨g, 1, none⟩ = some (.int .i64 now) ∧ w.cell? ⟨g, 2, none⟩ = some (.slice A M.length c) ∧ w.cell? ⟨g, 3, none⟩ = some (.slice B M.length d) :=
 ⟨h.blk.cell 0, h.blk.cell 1, h.blk.cell 2, h.blk.cell 3⟩
theorem inB_none {b : Nat} : ¬ InB none b := fun hb => by
 obtain ⟨a, ha, _⟩ := hb
 cases ha
theorem refwheel_new_bad (G : Int) (w : World) (h : G < 1 ∨ 1024 < G) : Calls Tryz.prog 73 #[.int .i64 G] w fun e w' => e = .returned (.pointer none) ∧ w = w' := by
 by_cases h1 : G < 1
 ·
  have d1 : decide (G < 1) = true := by simpa using h1
  clear h
  go_enter Tryz.func73, Tryz.ntmps73
  go_wp2_with fail
  go_ret
  exact ⟨rfl, rfl⟩
 ·
  have d1 : decide (G < 1) = false := by simpa using h1
  have d2 : decide (1024 < G) = true := by simp; omega
  clear h
  go_enter Tryz.func73, Tryz.ntmps73
  go_wp2_with fail
  go_ret
  exact ⟨rfl, rfl⟩
theorem refwheel_new (G : Int) (w : World) (h : 1 ≤ G ∧ G ≤ 1024) : Calls Tryz.prog 73 #[.int .i64 G] w fun e w' => e = .returned (.pointer (some ⟨w.heap.size, 0, none⟩)) ∧ RWhAt w' w.heap.size G 0 [] none 0 none 0 ∧ Below w.heap.size w w' := by
 have d1 : decide (G < 1) = false := by simp; omega
 have d2 : decide (1024 < G) = false := by simp; omega
 clear h
 go_enter Tryz.func73, Tryz.ntmps73
 go_wp2_with fail
 go_ret
 exact ⟨rfl, ⟨Blk.new _ _ _, ⟨OwnA.nil _ _, OwnA.nil _ _, fun b hb => absurd hb inB_none⟩, inB_none, inB_none⟩, below_alloc (Below.refl _ _) _⟩
end
section
variable {w w' : World} {g : Nat} {G now : Int} {M : LM} {A : Option Addr} {c : Nat} {B : Option Addr} {d : Nat}
end
section
variable {w w' : World} {g : Nat} {G now : Int} {M : LM} {A : Option Addr} {c : Nat} {B : Option Addr} {d : Nat}
end
section
variable {w w' : World} {g : Nat} {G now : Int} {M : LM} {A : Option Addr} {c : Nat} {B : Option Addr} {d : Nat}
theorem Two.off {base : Nat} {L K : List Int} (h : Two w base A c L B d K) {q : Addr} (hq : q.block < base) (u : Value) : Two (w.setCell q u) base A c L B d K :=
 ⟨h.fst.far (fun hi => by have := (h.fst.block hi).1; omega) u, h.snd.far (fun hi => by have := (h.snd.block hi).1; omega) u, h.apart⟩
end
abbrev mAt (M : LM) (k : Nat) : Int × Int := M.getD k (0, 0)
def bestK (G nw : Int) (M : LM) : Nat → Option Nat
 | 0 => none
 | k + 1 => if turnI G (mAt M k).2 * G ≤ nw ∧ (∀ b, bestK G nw M k = some b → turnI G (mAt M k).2 < turnI G (mAt M b).2) then some k else bestK G nw M k
theorem bestK_none {G nw : Int} {M : LM} : ∀ {k : Nat}, bestK G nw M k = none → ∀ j, j < k → ¬ turnI G (mAt M j).2 * G ≤ nw
 | 0, _, j, hj => absurd hj (by omega)
 | k + 1, h, j, hj => by
  unfold bestK at h
  split at h
  · cases h
  ·
   rename_i hc
   by_cases e : j = k
   ·
    subst e
    intro hle
    exact hc ⟨hle, fun b hb => by rw [h] at hb; cases hb⟩
   · exact bestK_none h j (by omega)
theorem bestK_some {G nw : Int} {M : LM} : ∀ {k b : Nat}, bestK G nw M k = some b → b < k ∧ turnI G (mAt M b).2 * G ≤ nw ∧ ∀ j, j < k → turnI G (mAt M j).2 * G ≤ nw → turnI G (mAt M b).2 < turnI G (mAt M j).2 ∨ turnI G (mAt M b).2 = turnI G (mAt M j).2 ∧ b ≤ j
 | 0, _, h => by cases h
 | k + 1, b, h => by
  unfold bestK at h
  split at h
  ·
   rename_i hc
   cases h
   refine ⟨by omega, hc.1, fun j hj hle => ?_⟩
   by_cases e : j = k
   ·
    subst e
    exact .inr ⟨rfl, Nat.le_refl _⟩
   ·
    cases hb : bestK G nw M k with
    | none => exact absurd hle (bestK_none hb j (by omega))
    | some b' =>
     have h1 := hc.2 b' hb
     have h2 := (bestK_some hb).2.2 j (by omega) hle
     left
     omega
  ·
   rename_i hc
   obtain ⟨h1, h2, h3⟩ := bestK_some h
   refine ⟨by omega, h2, fun j hj hle => ?_⟩
   by_cases e : j = k
   ·
    subst e
    by_cases hlt : turnI G (mAt M j).2 < turnI G (mAt M b).2
    · exact absurd ⟨hle, fun b' hb' => by rw [h] at hb'; cases hb'; exact hlt⟩ hc
    · omega
   · exact h3 j (by omega) hle
theorem mAt_get {M : LM} (hs : lmSorted M) {k : Nat} (hk : k < M.length) : lmGet M (mAt M k).1 = (mAt M k).2 := by
 refine lmGet_hit (k := k) (fun j hj e => ?_) hk rfl
 have := (List.pairwise_iff_getElem.1 hs) j k (by omega) hk hj
 simp [mAt, List.getD_eq_getElem?_getD, hk, show j < M.length by omega] at e
 omega
theorem mAt_mem {M : LM} {k : Nat} (hk : k < M.length) : lmHas M (mAt M k).1 = true := by
 refine lmHas_iff.2 ⟨M[k], List.getElem_mem hk, ?_⟩
 simp [mAt, List.getD_eq_getElem?_getD, hk]
theorem mAt_of {M : LM} {x : Int} (h : lmHas M x = true) : ∃ k, k < M.length ∧ (mAt M k).1 = x := by
 obtain ⟨y, hy, rfl⟩ := lmHas_iff.1 h
 obtain ⟨k, hk, rfl⟩ := List.getElem_of_mem hy
 exact ⟨k, hk, by simp [mAt, List.getD_eq_getElem?_getD, hk]⟩
theorem delAll_sorted : ∀ (D : List Int) {M : LM}, lmSorted M → lmSorted (delAll M D)
 | [], _, h => h
 | x :: r, _, h => delAll_sorted r (lmDel_sorted h x)
theorem delAll_snoc (D : List Int) (M : LM) (x : Int) : delAll M (D ++ [x]) = lmDel (delAll M D) x := delAll_append D M x
structure GoI (G nw : Int) (M : LM) (D : List Int) : Prop where
 sub : ∀ x ∈ D, lmHas M x = true ∧ turnI G (lmGet M x) * G ≤ nw
 nd : D.Nodup
 pw : D.Pairwise (leT G M)
 low : ∀ x ∈ D, ∀ y, lmHas (delAll M D) y = true → turnI G (lmGet M y) * G ≤ nw → leT G M x y
theorem GoI.nil (G nw : Int) (M : LM) : GoI G nw M [] := ⟨fun _ h => by simp at h, List.nodup_nil, List.Pairwise.nil, fun _ h => by simp at h⟩
theorem GoI.step {G nw : Int} {M : LM} {D : List Int} (h : GoI G nw M D) (hs : lmSorted M) {b : Nat} (hb : bestK G nw (delAll M D) (delAll M D).length = some b) : GoI G nw M (D ++ [(mAt (delAll M D) b).1]) := by
 obtain ⟨h1, h2, h3⟩ := bestK_some hb
 have hs2 := delAll_sorted D hs
 have hm := mAt_mem h1
 have hg := mAt_get hs2 h1
 have hm2 := (lmHas_delAll D M).1 hm
 have hg2 := lmGet_delAll D M hm2.2
 have hle : turnI G (lmGet M (mAt (delAll M D) b).1) * G ≤ nw := by
  rw [← hg2, hg]
  exact h2
 have hlow : ∀ y, lmHas (delAll M D) y = true → turnI G (lmGet M y) * G ≤ nw → leT G M (mAt (delAll M D) b).1 y := by
  intro y hy hyle
  obtain ⟨j, hj, rfl⟩ := mAt_of hy
  have hy2 := (lmHas_delAll D M).1 hy
  have e2 := lmGet_delAll D M hy2.2
  have e3 := mAt_get hs2 hj
  have h4 := h3 j hj (by rw [← e3, e2]; exact hyle)
  unfold leT
  rw [← hg2, hg, ← e2, e3]
  rcases h4 with h4 | ⟨h4, h5⟩
  · exact .inl h4
  ·
   right
   refine ⟨h4, ?_⟩
   by_cases e : b = j
   ·
    rw [e]
    exact Int.le_refl _
   ·
    have := (List.pairwise_iff_getElem.1 hs2) b j h1 hj (by omega)
    simp [mAt, List.getD_eq_getElem?_getD, h1, hj]
    omega
 generalize (mAt (delAll M D) b).1 = x at *
 refine ⟨fun y hy => ?_, ?_, ?_, fun y hy z hz hzl => ?_⟩
 ·
  rcases List.mem_append.1 hy with hy | hy
  · exact h.sub y hy
  ·
   rw [List.mem_singleton] at hy
   subst hy
   exact ⟨hm2.1, hle⟩
 ·
  rw [List.nodup_append]
  exact ⟨h.nd, by simp, fun a ha c hc e => by
   rw [List.mem_singleton] at hc
   subst hc e
   exact hm2.2 ha⟩
 ·
  rw [List.pairwise_append]
  exact ⟨h.pw, by simp, fun a ha c hc => by
   rw [List.mem_singleton] at hc
   subst hc
   exact h.low a ha c hm hle⟩
 ·
  rw [delAll_snoc, lmHas_del] at hz
  rcases List.mem_append.1 hy with hy | hy
  · exact h.low y hy z hz.1 hzl
  ·
   rw [List.mem_singleton] at hy
   subst hy
   exact hlow z hz.1 hzl
theorem GoI.done {G nw : Int} {M : LM} {D S : List Int} (h : GoI G nw M D) (hs : lmSorted M) (hb : bestK G nw (delAll M D) (delAll M D).length = none) (hS : ∀ x, x ∈ S ↔ lmHas M x = true ∧ turnI G (lmGet M x) * G ≤ nw) (hn : S.Nodup) (hp : S.Pairwise (leT G M)) : S = D := by
 refine leT_eq S D hp h.pw ((List.perm_ext_iff_of_nodup hn h.nd).2 fun x => ?_)
 rw [hS]
 refine ⟨fun ⟨h1, h2⟩ => ?_, h.sub x⟩
 by_cases hx : x ∈ D
 · exact hx
 exfalso
 have h3 : lmHas (delAll M D) x = true := (lmHas_delAll D M).2 ⟨h1, hx⟩
 obtain ⟨j, hj, rfl⟩ := mAt_of h3
 have e2 := lmGet_delAll D M hx
 have e3 := mAt_get (delAll_sorted D hs) hj
 exact bestK_none hb j hj (by rw [← e3, e2]; exact h2)
section
variable {w w' : World} {g : Nat} {G now : Int} {M : LM} {A : Option Addr} {c : Nat} {B : Option Addr} {d : Nat}
theorem RWhAt.setNow (h : RWhAt w g G now M A c B d) (nw : Int) : RWhAt (w.setCell ⟨g, 1, none⟩ (.int .i64 nw)) g G nw M A c B d := by
 have hc : Chg (· = g) w (w.setCell ⟨g, 1, none⟩ (.int .i64 nw)) := Chg.setCell (F := (· = g)) (p := ⟨g, 1, none⟩) (Chg.refl _ _) (fun _ => rfl) _
 refine ⟨by simpa using h.blk.set_ 1 (.int .i64 nw), h.two.chg hc (fun b hb e => ?_), h.ga, h.gb⟩
 have e2 : b = g := e
 subst e2
 exact hb.elim h.ga h.gb
theorem RWhAt.drewN (h : RWhAt w g G now M A c B d) (n : Nat) : RWhAt (w.drewN n) g G now M A c B d := h.call (below_drewN (Below.refl _ _) n)
def bestV : Option Nat → Value
 | none => .int .i64 (-1)
 | some b => .int .i64 (b : Int)
def slLen : Value → Nat
 | .slice _ n _ => n
 | _ => 0
end
theorem wheel_go_mem {w : World} {base g bm : Nat} {G now : Int} {M : LM} {R : Nat → List Int} {A : Nat → Option Addr} {C : Nat → Nat} {T : Nat → Int} {Z : Array Value} (h : WhAt w base g bm G now M R A C T Z) (inv : RowInv M R T) (hw : wInv G now M T) (hG : 1 ≤ G ∧ G ≤ 1024) (hnow : 0 ≤ now) (nw : Int) (hn : now ≤ nw ∧ nw ≤ 1099511627776) (hbase : base ≤ w.heap.size) :
  Calls Tryz.prog 125 #[.pointer (some ⟨g, 0, none⟩), .int .i64 nw] w fun e w' => ∃ (P : Option Addr) (c : Nat) (S : List Int) (R' : Nat → List Int) (T' : Nat → Int) (Z' : Array Value), e = .returned (.tuple #[.slice P S.length c, .int .i64 0]) ∧ (∀ x, x ∈ S ↔ lmHas M x = true ∧ turnI G (lmGet M x) * G ≤ nw) ∧ S.Nodup ∧ S.Pairwise (leT G M) ∧
   Reads w' w'.heap.size 1 P S.length (S.map (.int .i64)) ∧ (∀ b, InB P b → w.heap.size ≤ b) ∧ WhAt w' base g bm G nw (delAll M S) R' A C T' Z' ∧ RowInv (delAll M S) R' T' ∧ wInv G nw (delAll M S) T' ∧ Chg (whF g bm A) w w' := by
 refine (wheel_go h inv hw hG hnow nw hn hbase).mono ?_
 rintro e w' ⟨P, c, S, R', T', Z', h1, h2, h3, h4, h4b, h5, h6, h7, h8⟩
 have hf1 : now / G ≤ nw / G := Int.ediv_le_ediv (by omega) hn.1
 exact ⟨P, c, S, R', T', Z', h1, fun x => h2.mem_iff.trans (out_mem inv hw hG.1 hnow hn.1 x), h2.nodup_iff.2 (out_nodup inv nw _ (by unfold cntI; omega)), h3, h4, h4b, h5, h6, h7, h8⟩
theorem wInv.none (G now : Int) (T : Nat → Int) : wInv G now [] T := fun id h => by cases h
structure WStp where
 kind : Int
 id : Int
 n : Int
abbrev WStp.cells (s : WStp) : List Value := [.int .i64 s.kind, .int .i64 s.id, .int .i64 s.n]
def wstpWf (s : WStp) : Prop := (Lit.int .i64 s.id).wf = true
def WJ (w : World) (base g bm g2 : Nat) (G n1 : Int) (M1 : LM) (n2 : Int) (M2 : LM) : Prop :=
 ∃ (R : Nat → List Int) (A : Nat → Option Addr) (C : Nat → Nat) (T : Nat → Int) (Z : Array Value) (P : Option Addr) (c : Nat) (Q : Option Addr) (d : Nat),
  WhAt w base g bm G n1 M1 R A C T Z ∧ RowInv M1 R T ∧ wInv G n1 M1 T ∧ RWhAt w g2 G n2 M2 P c Q d ∧ (∀ b, whF g bm A b → ¬ rwF g2 P Q b) ∧ base ≤ g2
section
variable {w w' : World} {base g bm g2 : Nat} {G n1 n2 : Int} {M1 M2 : LM}
theorem WJ.call (h : WJ w base g bm g2 G n1 M1 n2 M2) (hb : Below w.heap.size w w') : WJ w' base g bm g2 G n1 M1 n2 M2 := by
 obtain ⟨R, A, C, T, Z, P, c, Q, d, h1, h2, h3, h4, h5, h6⟩ := h
 exact ⟨R, A, C, T, Z, P, c, Q, d, h1.call hb, h2, h3, h4.call hb, h5, h6⟩
theorem WJ.idr (h : WJ w base g bm g2 G n1 M1 n2 M2) : ∀ x ∈ M1, 0 ≤ x.1 ∧ x.1 ≤ 4095 ∧ 0 ≤ x.2 ∧ x.2 ≤ 2199023255552 := by
 obtain ⟨R, A, C, T, Z, P, c, Q, d, h1, h2, h3, h4, h5, h6⟩ := h
 exact h2.idr
def setMW (M : LM) (id due : Int) : LM := if setOk id due then lmPut M id due else M
def goOk (now nw : Int) : Bool := decide (now ≤ nw ∧ nw ≤ 1099511627776)
structure GoS (G now nw : Int) (M : LM) (S : List Int) : Prop where
 no : goOk now nw = false → S = []
 mem : goOk now nw = true → ∀ x, x ∈ S ↔ lmHas M x = true ∧ turnI G (lmGet M x) * G ≤ nw
 nd : S.Nodup
 pw : S.Pairwise (leT G M)
def goE (now nw : Int) : Int := if goOk now nw then 0 else 15
def goN (now nw : Int) : Int := if goOk now nw then nw else now
end
def wStep (s : WStp) (x : Int × LM) (S : List Int) : Int × LM :=
 if s.kind = 0 then (x.1, setMW x.2 s.id s.n) else if s.kind = 1 then (x.1, lmDel x.2 s.id) else if s.kind = 2 then x else (goN x.1 s.n, delAll x.2 S)
theorem goN_rng {now nw : Int} (h : 0 ≤ now ∧ now ≤ 1099511627776) : 0 ≤ goN now nw ∧ goN now nw ≤ 1099511627776 := by
 unfold goN goOk
 split
 ·
  next h2 =>
  rw [decide_eq_true_eq] at h2
  omega
 · exact h
theorem OwnI.low {w : World} {base base' c : Nat} {A : Option Addr} {L : List Int} (h : OwnI w base A c L) (hb : base' ≤ base) : OwnI w base' A c L := by
 unfold OwnI OwnA at h ⊢
 refine ⟨h.1, ?_⟩
 rcases h.2 with h0 | ⟨g, cap, cur, h1, hg, r⟩
 · exact .inl h0
 · exact .inr ⟨g, cap, cur, h1, by omega, r⟩
theorem WhAt.low {w : World} {base g bm : Nat} {G now : Int} {M : LM} {R : Nat → List Int} {A : Nat → Option Addr} {C : Nat → Nat} {T : Nat → Int} {Z : Array Value} (h : WhAt w base g bm G now M R A C T Z) : WhAt w 0 g bm G now M R A C T Z :=
 ⟨h.blk, h.size, h.z0, h.z1, h.z2, h.row, fun k hk => (h.own k hk).low (Nat.zero_le _), h.apart, h.at_, h.map, Nat.zero_le _, Nat.zero_le _⟩
def WheelP (w : World) (g : Nat) (G now : Int) (M : LM) (X : Nat → Prop) : Prop :=
 ∃ (bm : Nat) (R : Nat → List Int) (A : Nat → Option Addr) (C : Nat → Nat) (T : Nat → Int) (Z : Array Value), WhAt w 0 g bm G now M R A C T Z ∧ RowInv M R T ∧ wInv G now M T ∧ (∀ b, X b ↔ whF g bm A b) ∧ (1 ≤ G ∧ G ≤ 1024) ∧ (0 ≤ now ∧ now ≤ 1099511627776)
section
variable {w w' : World} {g : Nat} {G now : Int} {M : LM} {X F : Nat → Prop}
theorem WheelP.chg (h : WheelP w g G now M X) (k : Chg F w w') (hd : ∀ b, X b → ¬ F b) : WheelP w' g G now M X := by
 obtain ⟨bm, R, A, C, T, Z, h1, h2, h3, h4, h5⟩ := h
 exact ⟨bm, R, A, C, T, Z, h1.chg k (fun b hF hw => hd b ((h4 b).2 hw) hF), h2, h3, h4, h5⟩
theorem WheelP.lt (h : WheelP w g G now M X) {b : Nat} (hb : X b) : b < w.heap.size := by
 obtain ⟨bm, R, A, C, T, Z, h1, h2, h3, h4, h5⟩ := h
 exact (h1.whF_lt ((h4 b).1 hb)).2
theorem WheelP.idr (h : WheelP w g G now M X) : ∀ x ∈ M, 0 ≤ x.1 ∧ x.1 ≤ 4095 ∧ 0 ≤ x.2 ∧ x.2 ≤ 2199023255552 := by
 obtain ⟨bm, R, A, C, T, Z, h1, h2, h3, h4, h5⟩ := h
 exact h2.idr
theorem WheelP.rng (h : WheelP w g G now M X) : (1 ≤ G ∧ G ≤ 1024) ∧ (0 ≤ now ∧ now ≤ 1099511627776) := by
 obtain ⟨bm, R, A, C, T, Z, h1, h2, h3, h4, h5⟩ := h
 exact h5
theorem wheelp_new (G : Int) (w : World) (hG : 1 ≤ G ∧ G ≤ 1024) : Calls Tryz.prog 99 #[.int .i64 G] w fun e w' => ∃ g X, e = .returned (.pointer (some ⟨g, 0, none⟩)) ∧ WheelP w' g G 0 [] X ∧ Below w.heap.size w w' ∧ ∀ b, X b → w.heap.size ≤ b := by
 refine (wheel_new G w hG).mono ?_
 rintro e w' ⟨g, bm, Z, rfl, h1, hb⟩
 exact ⟨g, _, rfl, ⟨bm, _, _, _, _, Z, h1.low, RowInv.none, wInv.none _ _ _, fun b => Iff.rfl, hG, by omega⟩, hb, fun b hx => (h1.whF_lt hx).1⟩
theorem wheelp_unset (h : WheelP w g G now M X) (n : Nat) (hn : n < 4096) :
  Calls Tryz.prog 144 #[.pointer (some ⟨g, 0, none⟩), .int .i64 (n : Int)] w fun e w' => e = .returned (.bool (lmHas M n)) ∧ WheelP w' g G now (lmDel M n) X ∧ Chg X w w' := by
 obtain ⟨bm, R, A, C, T, Z, h1, h2, h3, h4, h5, h6⟩ := h
 refine (wheel_unset_any h1 h2 (by omega) n hn).mono ?_
 rintro e w' ⟨rfl, R', T', Z', k1, k2, k3, -, k5⟩
 exact ⟨rfl, ⟨bm, R', A, C, T', Z', k1, k2, h3.del (fun x hx => (h2.idr x hx).1) k3, h4, h5, h6⟩, k5.mono fun b _ hb => (h4 b).2 hb⟩
theorem wheelp_go (h : WheelP w g G now M X) (nw : Int) :
  Calls Tryz.prog 125 #[.pointer (some ⟨g, 0, none⟩), .int .i64 nw] w fun e w' => ∃ (B : Option Addr) (q : Nat) (S : List Int), e = .returned (.tuple #[.slice B S.length q, .int .i64 (goE now nw)]) ∧ GoS G now nw M S ∧ Reads w' w'.heap.size 1 B S.length (S.map (.int .i64)) ∧ (∀ b, InB B b → w.heap.size ≤ b) ∧ WheelP w' g G (goN now nw) (delAll M S) X ∧ Chg X w w' := by
 obtain ⟨bm, R, A, C, T, Z, h1, h2, h3, h4, h5, h6⟩ := h
 have h7 := goN_rng (nw := nw) h6
 unfold goE
 cases hs : goOk now nw
 ·
  have hk := hs
  unfold goOk at hk
  rw [decide_eq_false_iff_not] at hk
  refine (wheel_go_no h1 (by omega) nw (by omega)).mono ?_
  rintro e w' ⟨rfl, hb⟩
  have e1 : goN now nw = now := by unfold goN; rw [hs]; rfl
  rw [e1] at h7 ⊢
  exact ⟨none, 0, [], rfl, ⟨fun _ => rfl, fun e => (by rw [hs] at e; cases e), List.nodup_nil, List.Pairwise.nil⟩, ⟨rfl, fun h => absurd h (by decide)⟩, fun b hb => absurd hb inB_none, ⟨bm, R, A, C, T, Z, h1.call hb, h2, h3, h4, h5, h6⟩, Chg.of_below hb⟩
 ·
  have hk := hs
  unfold goOk at hk
  rw [decide_eq_true_eq] at hk
  refine (wheel_go_mem h1 h2 h3 h5 (by omega) nw hk (Nat.zero_le _)).mono ?_
  rintro e w' ⟨B, q, S, R', T', Z', rfl, k1, k2, k3, k4, k5, k6, k7, k8, k9⟩
  have e1 : goN now nw = nw := by unfold goN; rw [hs]; rfl
  rw [e1] at h7 ⊢
  exact ⟨B, q, S, rfl, ⟨fun e => (by rw [hs] at e; cases e), fun _ => k1, k2, k3⟩, k4, k5, ⟨bm, R', A, C, T', Z', k6, k7, k8, h4, h5, h7⟩, k9.mono fun b _ hb => (h4 b).2 hb⟩
end
structure Slt where
 t : Tup
 bk : Int
 st : Int
 sl : Int
 gen : Int
 due : Int
 used : Bool
abbrev Slt.ent (s : Slt) : List Value := [.int .i64 s.t.p, .bool s.t.v, .int .u64 s.t.hi, .int .u64 s.t.lo, .bool s.t.v', .int .u64 s.t.hi', .int .u64 s.t.lo', .int .i64 s.t.sp, .int .i64 s.t.dp, .int .i64 s.bk, .int .i64 s.st, .int .i64 s.sl, .int .u64 s.gen, .int .i64 s.due]
abbrev Slt.cells (s : Slt) : List Value := [.int .i64 s.t.p, .bool s.t.v, .int .u64 s.t.hi, .int .u64 s.t.lo, .bool s.t.v', .int .u64 s.t.hi', .int .u64 s.t.lo', .int .i64 s.t.sp, .int .i64 s.t.dp, .int .i64 s.bk, .int .i64 s.st, .int .i64 s.sl, .int .u64 s.gen, .int .i64 s.due, .bool s.used]
def Slots (w : World) (sb n : Nat) (E : Nat → Slt) : Prop :=
 ∃ Z : Array Value, Blk w sb 223 Z ∧ Z.size = n * 15 ∧ ∀ i, i < n → ∀ j, j < 15 → Z[i * 15 + j]? = (E i).cells[j]?
def updE (E : Nat → Slt) (i : Nat) (s : Slt) : Nat → Slt := fun j => if j = i then s else E j
theorem updE_self (E : Nat → Slt) (i : Nat) (s : Slt) : updE E i s i = s := if_pos rfl
theorem updE_ne (E : Nat → Slt) {i j : Nat} (s : Slt) (h : j ≠ i) : updE E i s j = E j := if_neg h
theorem updE_updE (E : Nat → Slt) (i : Nat) (s t : Slt) : updE (updE E i s) i t = updE E i t := by
 funext j
 unfold updE
 split <;> rfl
section
variable {w w' : World} {sb n : Nat} {E : Nat → Slt} {F : Nat → Prop}
theorem Slots.lt (h : Slots w sb n E) : sb < w.heap.size := by
 obtain ⟨Z, h1, h2, h3⟩ := h
 exact h1.lt
theorem Slots.chg (h : Slots w sb n E) (k : Chg F w w') (hd : ¬ F sb) : Slots w' sb n E := by
 obtain ⟨Z, h1, h2, h3⟩ := h
 exact ⟨Z, h1.chg k hd, h2, h3⟩
theorem Slots.frozen (h : Slots w sb n E) (x : Nat) : w.frozen? ⟨sb, x, none⟩ = false := by
 obtain ⟨Z, h1, h2, h3⟩ := h
 exact h1.frozen x
theorem Slots.cell (h : Slots w sb n E) {i : Nat} (hi : i < n) (j : Nat) (hj : j < 15) : w.cell? ⟨sb, i * 15 + j, none⟩ = (E i).cells[j]? := by
 obtain ⟨Z, h1, h2, h3⟩ := h
 rw [h1.cell, h3 i hi j hj]
theorem Slots.set (h : Slots w sb n E) {i : Nat} (hi : i < n) (j : Nat) (hj : j < 15) (v : Value) (s : Slt) (hs : s.cells = (E i).cells.set j v) : Slots (w.setCell ⟨sb, i * 15 + j, none⟩ v) sb n (updE E i s) := by
 obtain ⟨Z, h1, h2, h3⟩ := h
 refine ⟨_, h1.set_ (i * 15 + j) v, by simpa using h2, fun i' hi' j' hj' => ?_⟩
 by_cases e : i' = i
 ·
  subst e
  rw [updE_self, hs]
  by_cases e2 : j' = j
  ·
   subst e2
   rw [Array.getElem?_setIfInBounds_self_of_lt (by omega), List.getElem?_set_self (by simpa using hj)]
  · rw [Array.getElem?_setIfInBounds_ne (by omega), h3 i' hi' j' hj', List.getElem?_set_ne (Ne.symm e2)]
 · rw [updE_ne E s e, Array.getElem?_setIfInBounds_ne (by omega), h3 i' hi' j' hj']
end
structure TCfg where
 a : Int
 b : Int
 c : Int
 d : Int
 G : Int
structure TSt where
 now : Int
 M : LM
 L : List Int
 E : Nat → Slt
 lk : Int
def TabP (w : World) (g sb n : Nat) (c : TCfg) (s : TSt) (X : Nat → Prop) : Prop :=
 ∃ (fs wg : Nat) (F Y : Nat → Prop), Blk w g 221 #[.int .i64 c.a, .int .i64 c.b, .int .i64 c.c, .int .i64 c.d, .pointer (some ⟨fs, 0, none⟩), .pointer (some ⟨wg, 0, none⟩), .slice (some ⟨sb, 0, none⟩) n n, .int .i64 s.lk] ∧
  StackP w fs n s.L F ∧ WheelP w wg c.G s.now s.M Y ∧ Slots w sb n s.E ∧ (∀ b, X b ↔ b = g ∨ b = sb ∨ F b ∨ Y b) ∧ (∀ b, F b → ¬ Y b) ∧ (∀ b, F b ∨ Y b → b ≠ g ∧ b ≠ sb) ∧ g ≠ sb ∧ n ≤ 4096
section
variable {w w' : World} {g sb n : Nat} {c : TCfg} {s : TSt} {X F : Nat → Prop}
theorem TabP.chg (h : TabP w g sb n c s X) (k : Chg F w w') (hd : ∀ b, X b → ¬ F b) : TabP w' g sb n c s X := by
 obtain ⟨fs, wg, F', Y, h1, h2, h3, h4, h5, h6⟩ := h
 exact ⟨fs, wg, F', Y, h1.chg k (hd _ ((h5 _).2 (.inl rfl))), h2.chg k (fun b hb => hd b ((h5 b).2 (.inr (.inr (.inl hb))))), h3.chg k (fun b hb => hd b ((h5 b).2 (.inr (.inr (.inr hb))))), h4.chg k (hd _ ((h5 _).2 (.inr (.inl rfl)))), h5, h6⟩
theorem TabP.call (h : TabP w g sb n c s X) (hb : Below w.heap.size w w') : TabP w' g sb n c s X := h.chg (F := fun _ => False) (Chg.of_below hb) (fun _ _ h => h)
theorem TabP.lt (h : TabP w g sb n c s X) {b : Nat} (hb : X b) : b < w.heap.size := by
 obtain ⟨fs, wg, F', Y, h1, h2, h3, h4, h5, h6⟩ := h
 rcases (h5 b).1 hb with rfl | rfl | hb | hb
 · exact h1.lt
 · exact h4.lt
 · exact h2.lt hb
 · exact h3.lt hb
end
abbrev tabZ : Array Value := #[.int .i64 0, .int .i64 0, .int .i64 0, .int .i64 0, .pointer none, .pointer none, .slice none 0 0, .int .i64 0]
section
variable {w w' : World} {g sb n : Nat} {c : TCfg} {s : TSt} {X F : Nat → Prop}
theorem tab_given (h : TabP w g sb n c s X) : Calls Tryz.prog 124 #[.pointer (some ⟨g, 0, none⟩)] w fun e w' => e = .returned (.bool true) ∧ w = w' := by
 obtain ⟨fs, wg, F', Y, h1, h2, h3, h4, h5, h6⟩ := h
 have c5 := h1.cell 5
 simp at c5
 clear h1 h2 h3 h4
 go_enter Tryz.func124, Tryz.ntmps124
 go_wp2_with fail
 go_ret
 exact ⟨rfl, rfl⟩
theorem TabP.cells (h : TabP w g sb n c s X) : w.cell? ⟨g, 6, none⟩ = some (.slice (some ⟨sb, 0, none⟩) n n) ∧ w.cell? ⟨g, 7, none⟩ = some (.int .i64 s.lk) ∧ (∀ j, w.frozen? ⟨g, j, none⟩ = false) ∧ n ≤ 4096 := by
 obtain ⟨fs, wg, F', Y, h1, h2, h3, h4, h5, h6, h7, h8, h9⟩ := h
 exact ⟨h1.cell 6, h1.cell 7, h1.frozen, h9⟩
def lookOk (n : Nat) (i : Int) : Bool := decide (0 ≤ i ∧ i < (n : Int))
def lookS (n : Nat) (i : Int) (s : TSt) : TSt := if lookOk n i then { s with lk := wrap64 (s.lk + 1) } else s
theorem tab_free (h : TabP w g sb n c s X) : Calls Tryz.prog 130 #[.pointer (some ⟨g, 0, none⟩)] w fun e w' => e = .returned (.int .i64 s.L.length) ∧ w = w' := by
 have GV := Lib.hid (tab_given h)
 obtain ⟨fs, wg, F', Y, h1, h2, h3, h4, h5, h6, h7, h8, h9⟩ := h
 have c4 := h1.cell 4
 simp at c4
 have FR := Lib.hid (free_any _ _ _ _ _ h2)
 clear h1 h2 h3 h4
 go_enter Tryz.func130, Tryz.ntmps130
 go_wp2_with (first
  | (go_at_call 124; (with_reducible refine GV.out.mono ?_); rintro e w1 ⟨rfl, rfl⟩)
  | (go_at_call 147; (with_reducible refine FR.out.mono ?_); rintro e w1 ⟨rfl, rfl⟩))
 go_ret
 exact ⟨rfl, rfl⟩
def genI (n : Nat) (E : Nat → Slt) (i : Int) : Int := if lookOk n i then (E i.toNat).gen else 0
end
section
variable {w w' : World} {g sb n : Nat} {c : TCfg} {s : TSt} {X F : Nat → Prop}
theorem TabP.setE (h : TabP w g sb n c s X) {i : Nat} (hi : i < n) (j : Nat) (hj : j < 15) (v : Value) (t : Slt) (hs : t.cells = (s.E i).cells.set j v) : TabP (w.setCell ⟨sb, i * 15 + j, none⟩ v) g sb n c { s with E := updE s.E i t } X := by
 obtain ⟨fs, wg, F', Y, h1, h2, h3, h4, h5, h6, h7, h8, h9⟩ := h
 have k : Chg (· = sb) w (w.setCell ⟨sb, i * 15 + j, none⟩ v) := Chg.setCell (F := (· = sb)) (p := ⟨sb, i * 15 + j, none⟩) (Chg.refl _ _) (fun _ => rfl) _
 exact ⟨fs, wg, F', Y, h1.chg k h8, h2.chg k (fun b hb e => (h7 b (.inl hb)).2 e), h3.chg k (fun b hb e => (h7 b (.inr hb)).2 e), h4.set hi j hj v t hs, h5, h6, h7, h8, h9⟩
theorem TabP.slot (h : TabP w g sb n c s X) {i : Nat} (hi : i < n) (j : Nat) (hj : j < 15) : w.cell? ⟨sb, i * 15 + j, none⟩ = (s.E i).cells[j]? := by
 obtain ⟨fs, wg, F', Y, h1, h2, h3, h4, h5, h6⟩ := h
 exact h4.cell hi j hj
theorem TabP.slotf (h : TabP w g sb n c s X) (x : Nat) : w.frozen? ⟨sb, x, none⟩ = false := by
 obtain ⟨fs, wg, F', Y, h1, h2, h3, h4, h5, h6⟩ := h
 exact h4.frozen x
theorem TabP.wheel (h : TabP w g sb n c s X) : ∃ wg, w.cell? ⟨g, 5, none⟩ = some (.pointer (some ⟨wg, 0, none⟩)) ∧ ∃ fs F Y, w.cell? ⟨g, 4, none⟩ = some (.pointer (some ⟨fs, 0, none⟩)) ∧ StackP w fs n s.L F ∧ WheelP w wg c.G s.now s.M Y ∧ (∀ b, Y b → b ≠ g ∧ b ≠ sb) ∧ (∀ b, F b → b ≠ g ∧ b ≠ sb) ∧
  (∀ (w' : World) (now' : Int) (M' : LM) (Y' : Nat → Prop), WheelP w' wg c.G now' M' Y' → Chg Y w w' → (∀ b, Y' b → Y b ∨ w.heap.size ≤ b) → ∃ X', TabP w' g sb n c { s with now := now', M := M' } X' ∧ Chg X w w' ∧ ∀ b, X' b → X b ∨ w.heap.size ≤ b) ∧
  (∀ (w' : World) (L' : List Int) (F' : Nat → Prop), StackP w' fs n L' F' → Chg F w w' → (∀ b, F' b → F b ∨ w.heap.size ≤ b) → ∃ X', TabP w' g sb n c { s with L := L' } X' ∧ Chg X w w' ∧ ∀ b, X' b → X b ∨ w.heap.size ≤ b) := by
 obtain ⟨fs, wg, F', Y, h1, h2, h3, h4, h5, h6, h7, h8, h9⟩ := h
 have c4 := h1.cell 4
 have c5 := h1.cell 5
 have hgl := h1.lt
 have hsl := h4.lt
 simp at c4 c5
 refine ⟨wg, c5, fs, F', Y, c4, h2, h3, fun b hb => h7 b (.inr hb), fun b hb => h7 b (.inl hb), fun w' now' M' Y' k1 k2 k3 => ?_, fun w' L' F'' k1 k2 k3 => ?_⟩
 ·
  refine ⟨fun b => b = g ∨ b = sb ∨ F' b ∨ Y' b, ⟨fs, wg, F', Y', h1.chg k2 (fun e => (h7 g (.inr e)).1 rfl), h2.chg k2 (fun b hb e => h6 b hb e), k1, h4.chg k2 (fun e => (h7 sb (.inr e)).2 rfl), fun b => Iff.rfl, fun b hb hy => ?_, fun b hb => ?_, h8, h9⟩, k2.mono fun b _ hb => (h5 b).2 (.inr (.inr (.inr hb))), fun b hb => ?_⟩
  ·
   rcases k3 b hy with hy | hy
   · exact h6 b hb hy
   ·
    have := h2.lt hb
    omega
  ·
   rcases hb with hb | hb
   · exact h7 b (.inl hb)
   ·
    rcases k3 b hb with hy | hy
    · exact h7 b (.inr hy)
    · omega
  ·
   rcases hb with hb | hb | hb | hb
   · exact .inl ((h5 b).2 (.inl hb))
   · exact .inl ((h5 b).2 (.inr (.inl hb)))
   · exact .inl ((h5 b).2 (.inr (.inr (.inl hb))))
   · exact (k3 b hb).imp (fun h => (h5 b).2 (.inr (.inr (.inr h)))) id
 ·
  refine ⟨fun b => b = g ∨ b = sb ∨ F'' b ∨ Y b, ⟨fs, wg, F'', Y, h1.chg k2 (fun e => (h7 g (.inl e)).1 rfl), k1, h3.chg k2 (fun b hb e => h6 b e hb), h4.chg k2 (fun e => (h7 sb (.inl e)).2 rfl), fun b => Iff.rfl, fun b hb hy => ?_, fun b hb => ?_, h8, h9⟩, k2.mono fun b _ hb => (h5 b).2 (.inr (.inr (.inl hb))), fun b hb => ?_⟩
  ·
   rcases k3 b hb with hx | hx
   · exact h6 b hx hy
   ·
    have := h3.lt hy
    omega
  ·
   rcases hb with hb | hb
   ·
    rcases k3 b hb with hy | hy
    · exact h7 b (.inl hy)
    · omega
   · exact h7 b (.inr hb)
  ·
   rcases hb with hb | hb | hb | hb
   · exact .inl ((h5 b).2 (.inl hb))
   · exact .inl ((h5 b).2 (.inr (.inl hb)))
   · exact (k3 b hb).imp (fun h => (h5 b).2 (.inr (.inr (.inl h)))) id
   · exact .inl ((h5 b).2 (.inr (.inr (.inr hb))))
theorem TabP.rng (h : TabP w g sb n c s X) : (1 ≤ c.G ∧ c.G ≤ 1024) ∧ (0 ≤ s.now ∧ s.now ≤ 1099511627776) ∧ n ≤ 4096 := by
 obtain ⟨fs, wg, F', Y, h1, h2, h3, h4, h5, h6, h7, h8, h9⟩ := h
 exact ⟨h3.rng.1, h3.rng.2, h9⟩
abbrev dueT (c : TCfg) (now st : Int) : Int := now + idleS c.a c.b c.c c.d st
end
abbrev Slt.val (s : Slt) : Value := .agg #[.int .i64 s.t.p, .bool s.t.v, .int .u64 s.t.hi, .int .u64 s.t.lo, .bool s.t.v', .int .u64 s.t.hi', .int .u64 s.t.lo', .int .i64 s.t.sp, .int .i64 s.t.dp, .int .i64 s.bk, .int .i64 s.st, .int .i64 s.sl, .int .u64 s.gen, .int .i64 s.due]
def tup0 : Tup := ⟨0, false, 0, 0, false, 0, 0, 0, 0⟩
def clrS (s : Slt) : Slt := ⟨tup0, 0, 0, s.sl, IntKind.u64.wrap (s.gen + 1), 0, false⟩
section
variable {w w' : World} {g sb n : Nat} {c : TCfg} {s : TSt} {X F : Nat → Prop}
theorem Slots.setAll {E : Nat → Slt} (h : Slots w sb n E) {i : Nat} (hi : i < n) (t : Slt) : Slots (((((((((((((((w.setCell ⟨sb, i * 15, none⟩ (.int .i64 t.t.p)).setCell ⟨sb, i * 15 + 1, none⟩ (.bool t.t.v)).setCell ⟨sb, i * 15 + 2, none⟩ (.int .u64 ((t.t.hi : Nat) : Int))).setCell ⟨sb, i * 15 + 3, none⟩ (.int .u64 ((t.t.lo : Nat) : Int))).setCell ⟨sb, i * 15 + 4, none⟩ (.bool t.t.v')).setCell ⟨sb, i * 15 + 5, none⟩ (.int .u64 ((t.t.hi' : Nat) : Int))).setCell ⟨sb, i * 15 + 6, none⟩ (.int .u64 ((t.t.lo' : Nat) : Int))).setCell ⟨sb, i * 15 + 7, none⟩ (.int .i64 t.t.sp)).setCell ⟨sb, i * 15 + 8, none⟩ (.int .i64 t.t.dp)).setCell ⟨sb, i * 15 + 9, none⟩ (.int .i64 t.bk)).setCell ⟨sb, i * 15 + 10, none⟩ (.int .i64 t.st)).setCell ⟨sb, i * 15 + 11, none⟩ (.int .i64 t.sl)).setCell ⟨sb, i * 15 + 12, none⟩ (.int .u64 t.gen)).setCell ⟨sb, i * 15 + 13, none⟩ (.int .i64 t.due)).setCell ⟨sb, i * 15 + 14, none⟩ (.bool t.used)) sb n (updE E i t) := by
 have h0 := h.set hi 0 (by omega) (.int .i64 t.t.p) ⟨⟨t.t.p, (E i).t.v, (E i).t.hi, (E i).t.lo, (E i).t.v', (E i).t.hi', (E i).t.lo', (E i).t.sp, (E i).t.dp⟩, (E i).bk, (E i).st, (E i).sl, (E i).gen, (E i).due, (E i).used⟩ rfl
 have h1 := h0.set hi 1 (by omega) (.bool t.t.v) ⟨⟨t.t.p, t.t.v, (E i).t.hi, (E i).t.lo, (E i).t.v', (E i).t.hi', (E i).t.lo', (E i).t.sp, (E i).t.dp⟩, (E i).bk, (E i).st, (E i).sl, (E i).gen, (E i).due, (E i).used⟩ (by simp only [updE_self]; rfl)
 rw [updE_updE] at h1
 have h2 := h1.set hi 2 (by omega) (.int .u64 ((t.t.hi : Nat) : Int)) ⟨⟨t.t.p, t.t.v, t.t.hi, (E i).t.lo, (E i).t.v', (E i).t.hi', (E i).t.lo', (E i).t.sp, (E i).t.dp⟩, (E i).bk, (E i).st, (E i).sl, (E i).gen, (E i).due, (E i).used⟩ (by simp only [updE_self]; rfl)
 rw [updE_updE] at h2
 have h3 := h2.set hi 3 (by omega) (.int .u64 ((t.t.lo : Nat) : Int)) ⟨⟨t.t.p, t.t.v, t.t.hi, t.t.lo, (E i).t.v', (E i).t.hi', (E i).t.lo', (E i).t.sp, (E i).t.dp⟩, (E i).bk, (E i).st, (E i).sl, (E i).gen, (E i).due, (E i).used⟩ (by simp only [updE_self]; rfl)
 rw [updE_updE] at h3
 have h4 := h3.set hi 4 (by omega) (.bool t.t.v') ⟨⟨t.t.p, t.t.v, t.t.hi, t.t.lo, t.t.v', (E i).t.hi', (E i).t.lo', (E i).t.sp, (E i).t.dp⟩, (E i).bk, (E i).st, (E i).sl, (E i).gen, (E i).due, (E i).used⟩ (by simp only [updE_self]; rfl)
 rw [updE_updE] at h4
 have h5 := h4.set hi 5 (by omega) (.int .u64 ((t.t.hi' : Nat) : Int)) ⟨⟨t.t.p, t.t.v, t.t.hi, t.t.lo, t.t.v', t.t.hi', (E i).t.lo', (E i).t.sp, (E i).t.dp⟩, (E i).bk, (E i).st, (E i).sl, (E i).gen, (E i).due, (E i).used⟩ (by simp only [updE_self]; rfl)
 rw [updE_updE] at h5
 have h6 := h5.set hi 6 (by omega) (.int .u64 ((t.t.lo' : Nat) : Int)) ⟨⟨t.t.p, t.t.v, t.t.hi, t.t.lo, t.t.v', t.t.hi', t.t.lo', (E i).t.sp, (E i).t.dp⟩, (E i).bk, (E i).st, (E i).sl, (E i).gen, (E i).due, (E i).used⟩ (by simp only [updE_self]; rfl)
 rw [updE_updE] at h6
 have h7 := h6.set hi 7 (by omega) (.int .i64 t.t.sp) ⟨⟨t.t.p, t.t.v, t.t.hi, t.t.lo, t.t.v', t.t.hi', t.t.lo', t.t.sp, (E i).t.dp⟩, (E i).bk, (E i).st, (E i).sl, (E i).gen, (E i).due, (E i).used⟩ (by simp only [updE_self]; rfl)
 rw [updE_updE] at h7
 have h8 := h7.set hi 8 (by omega) (.int .i64 t.t.dp) ⟨⟨t.t.p, t.t.v, t.t.hi, t.t.lo, t.t.v', t.t.hi', t.t.lo', t.t.sp, t.t.dp⟩, (E i).bk, (E i).st, (E i).sl, (E i).gen, (E i).due, (E i).used⟩ (by simp only [updE_self]; rfl)
 rw [updE_updE] at h8
 have h9 := h8.set hi 9 (by omega) (.int .i64 t.bk) ⟨⟨t.t.p, t.t.v, t.t.hi, t.t.lo, t.t.v', t.t.hi', t.t.lo', t.t.sp, t.t.dp⟩, t.bk, (E i).st, (E i).sl, (E i).gen, (E i).due, (E i).used⟩ (by simp only [updE_self]; rfl)
 rw [updE_updE] at h9
 have h10 := h9.set hi 10 (by omega) (.int .i64 t.st) ⟨⟨t.t.p, t.t.v, t.t.hi, t.t.lo, t.t.v', t.t.hi', t.t.lo', t.t.sp, t.t.dp⟩, t.bk, t.st, (E i).sl, (E i).gen, (E i).due, (E i).used⟩ (by simp only [updE_self]; rfl)
 rw [updE_updE] at h10
 have h11 := h10.set hi 11 (by omega) (.int .i64 t.sl) ⟨⟨t.t.p, t.t.v, t.t.hi, t.t.lo, t.t.v', t.t.hi', t.t.lo', t.t.sp, t.t.dp⟩, t.bk, t.st, t.sl, (E i).gen, (E i).due, (E i).used⟩ (by simp only [updE_self]; rfl)
 rw [updE_updE] at h11
 have h12 := h11.set hi 12 (by omega) (.int .u64 t.gen) ⟨⟨t.t.p, t.t.v, t.t.hi, t.t.lo, t.t.v', t.t.hi', t.t.lo', t.t.sp, t.t.dp⟩, t.bk, t.st, t.sl, t.gen, (E i).due, (E i).used⟩ (by simp only [updE_self]; rfl)
 rw [updE_updE] at h12
 have h13 := h12.set hi 13 (by omega) (.int .i64 t.due) ⟨⟨t.t.p, t.t.v, t.t.hi, t.t.lo, t.t.v', t.t.hi', t.t.lo', t.t.sp, t.t.dp⟩, t.bk, t.st, t.sl, t.gen, t.due, (E i).used⟩ (by simp only [updE_self]; rfl)
 rw [updE_updE] at h13
 have h14 := h13.set hi 14 (by omega) (.bool t.used) ⟨⟨t.t.p, t.t.v, t.t.hi, t.t.lo, t.t.v', t.t.hi', t.t.lo', t.t.sp, t.t.dp⟩, t.bk, t.st, t.sl, t.gen, t.due, t.used⟩ (by simp only [updE_self]; rfl)
 rw [updE_updE] at h14
 exact h14
theorem TabP.setAll (h : TabP w g sb n c s X) {i : Nat} (hi : i < n) (t : Slt) : TabP (((((((((((((((w.setCell ⟨sb, i * 15, none⟩ (.int .i64 t.t.p)).setCell ⟨sb, i * 15 + 1, none⟩ (.bool t.t.v)).setCell ⟨sb, i * 15 + 2, none⟩ (.int .u64 ((t.t.hi : Nat) : Int))).setCell ⟨sb, i * 15 + 3, none⟩ (.int .u64 ((t.t.lo : Nat) : Int))).setCell ⟨sb, i * 15 + 4, none⟩ (.bool t.t.v')).setCell ⟨sb, i * 15 + 5, none⟩ (.int .u64 ((t.t.hi' : Nat) : Int))).setCell ⟨sb, i * 15 + 6, none⟩ (.int .u64 ((t.t.lo' : Nat) : Int))).setCell ⟨sb, i * 15 + 7, none⟩ (.int .i64 t.t.sp)).setCell ⟨sb, i * 15 + 8, none⟩ (.int .i64 t.t.dp)).setCell ⟨sb, i * 15 + 9, none⟩ (.int .i64 t.bk)).setCell ⟨sb, i * 15 + 10, none⟩ (.int .i64 t.st)).setCell ⟨sb, i * 15 + 11, none⟩ (.int .i64 t.sl)).setCell ⟨sb, i * 15 + 12, none⟩ (.int .u64 t.gen)).setCell ⟨sb, i * 15 + 13, none⟩ (.int .i64 t.due)).setCell ⟨sb, i * 15 + 14, none⟩ (.bool t.used)) g sb n c { s with E := updE s.E i t } X ∧ Chg (· = sb) w (((((((((((((((w.setCell ⟨sb, i * 15, none⟩ (.int .i64 t.t.p)).setCell ⟨sb, i * 15 + 1, none⟩ (.bool t.t.v)).setCell ⟨sb, i * 15 + 2, none⟩ (.int .u64 ((t.t.hi : Nat) : Int))).setCell ⟨sb, i * 15 + 3, none⟩ (.int .u64 ((t.t.lo : Nat) : Int))).setCell ⟨sb, i * 15 + 4, none⟩ (.bool t.t.v')).setCell ⟨sb, i * 15 + 5, none⟩ (.int .u64 ((t.t.hi' : Nat) : Int))).setCell ⟨sb, i * 15 + 6, none⟩ (.int .u64 ((t.t.lo' : Nat) : Int))).setCell ⟨sb, i * 15 + 7, none⟩ (.int .i64 t.t.sp)).setCell ⟨sb, i * 15 + 8, none⟩ (.int .i64 t.t.dp)).setCell ⟨sb, i * 15 + 9, none⟩ (.int .i64 t.bk)).setCell ⟨sb, i * 15 + 10, none⟩ (.int .i64 t.st)).setCell ⟨sb, i * 15 + 11, none⟩ (.int .i64 t.sl)).setCell ⟨sb, i * 15 + 12, none⟩ (.int .u64 t.gen)).setCell ⟨sb, i * 15 + 13, none⟩ (.int .i64 t.due)).setCell ⟨sb, i * 15 + 14, none⟩ (.bool t.used)) := by
 have k : Chg (· = sb) w (((((((((((((((w.setCell ⟨sb, i * 15, none⟩ (.int .i64 t.t.p)).setCell ⟨sb, i * 15 + 1, none⟩ (.bool t.t.v)).setCell ⟨sb, i * 15 + 2, none⟩ (.int .u64 ((t.t.hi : Nat) : Int))).setCell ⟨sb, i * 15 + 3, none⟩ (.int .u64 ((t.t.lo : Nat) : Int))).setCell ⟨sb, i * 15 + 4, none⟩ (.bool t.t.v')).setCell ⟨sb, i * 15 + 5, none⟩ (.int .u64 ((t.t.hi' : Nat) : Int))).setCell ⟨sb, i * 15 + 6, none⟩ (.int .u64 ((t.t.lo' : Nat) : Int))).setCell ⟨sb, i * 15 + 7, none⟩ (.int .i64 t.t.sp)).setCell ⟨sb, i * 15 + 8, none⟩ (.int .i64 t.t.dp)).setCell ⟨sb, i * 15 + 9, none⟩ (.int .i64 t.bk)).setCell ⟨sb, i * 15 + 10, none⟩ (.int .i64 t.st)).setCell ⟨sb, i * 15 + 11, none⟩ (.int .i64 t.sl)).setCell ⟨sb, i * 15 + 12, none⟩ (.int .u64 t.gen)).setCell ⟨sb, i * 15 + 13, none⟩ (.int .i64 t.due)).setCell ⟨sb, i * 15 + 14, none⟩ (.bool t.used)) := by
  exact Chg.setCell (F := (· = sb)) (p := ⟨sb, i * 15 + 14, none⟩) (Chg.setCell (F := (· = sb)) (p := ⟨sb, i * 15 + 13, none⟩) (Chg.setCell (F := (· = sb)) (p := ⟨sb, i * 15 + 12, none⟩) (Chg.setCell (F := (· = sb)) (p := ⟨sb, i * 15 + 11, none⟩) (Chg.setCell (F := (· = sb)) (p := ⟨sb, i * 15 + 10, none⟩) (Chg.setCell (F := (· = sb)) (p := ⟨sb, i * 15 + 9, none⟩) (Chg.setCell (F := (· = sb)) (p := ⟨sb, i * 15 + 8, none⟩) (Chg.setCell (F := (· = sb)) (p := ⟨sb, i * 15 + 7, none⟩) (Chg.setCell (F := (· = sb)) (p := ⟨sb, i * 15 + 6, none⟩) (Chg.setCell (F := (· = sb)) (p := ⟨sb, i * 15 + 5, none⟩) (Chg.setCell (F := (· = sb)) (p := ⟨sb, i * 15 + 4, none⟩) (Chg.setCell (F := (· = sb)) (p := ⟨sb, i * 15 + 3, none⟩) (Chg.setCell (F := (· = sb)) (p := ⟨sb, i * 15 + 2, none⟩) (Chg.setCell (F := (· = sb)) (p := ⟨sb, i * 15 + 1, none⟩) (Chg.setCell (F := (· = sb)) (p := ⟨sb, i * 15, none⟩) (Chg.refl _ _) (fun _ => rfl) _) (fun _ => rfl) _) (fun _ => rfl) _) (fun _ => rfl) _) (fun _ => rfl) _) (fun _ => rfl) _) (fun _ => rfl) _) (fun _ => rfl) _) (fun _ => rfl) _) (fun _ => rfl) _) (fun _ => rfl) _) (fun _ => rfl) _) (fun _ => rfl) _) (fun _ => rfl) _) (fun _ => rfl) _
 obtain ⟨fs, wg, F', Y, h1, h2, h3, h4, h5, h6, h7, h8, h9⟩ := h
 exact ⟨⟨fs, wg, F', Y, h1.chg k h8, h2.chg k (fun b hb e => (h7 b (.inl hb)).2 e), h3.chg k (fun b hb e => (h7 b (.inr hb)).2 e), h4.setAll hi t, h5, h6, h7, h8, h9⟩, k⟩
set_option maxRecDepth 100000 in
set_option maxHeartbeats 4000000 in
theorem tab_goes (h : TabP w g sb n c s X) (i : Nat) (hi : i < n) (hsl : (s.E i).sl = i) :
  Calls Tryz.prog 126 #[.pointer (some ⟨g, 0, none⟩), .pointer (some ⟨sb, i * 15, none⟩)] w fun e w' => e = .returned (s.E i).val ∧
   ∃ X', TabP w' g sb n c { s with E := updE s.E i (clrS (s.E i)), M := lmDel s.M i, L := pushL n s.L i } X' ∧ Chg X w w' ∧ ∀ b, X' b → X b ∨ w.heap.size ≤ b := by
 have hC := Lib.hid fun W (hb : Below w.heap.size w W) (j : Nat) (hj : j < 15) => (h.call hb).slot hi j hj
 obtain ⟨r1, r2, hn⟩ := h.rng
 obtain ⟨sl, hslE⟩ : ∃ sl, s.E i = sl := ⟨_, rfl⟩
 rw [hslE] at hC hsl ⊢
 replace h := Lib.hid h
 have hb1 : Below w.heap.size w (w.alloc (.cells #[.int .i64 0, .bool false, .int .u64 0, .int .u64 0, .bool false, .int .u64 0, .int .u64 0, .int .i64 0, .int .i64 0, .int .i64 0, .int .i64 0, .int .i64 0, .int .u64 0, .int .i64 0] 101)) := below_alloc (Below.refl _ _) _
 have B1 := Blk.new w 101 #[.int .i64 0, .bool false, .int .u64 0, .int .u64 0, .bool false, .int .u64 0, .int .u64 0, .int .i64 0, .int .i64 0, .int .i64 0, .int .i64 0, .int .i64 0, .int .u64 0, .int .i64 0]
 go_enter Tryz.func126, Tryz.ntmps126
 go_upto_region 1 with fail
 obtain ⟨r, hr⟩ : ∃ r, w.heap.size = r := ⟨_, rfl⟩
 rw [hr] at B1
 generalize w.alloc (.cells #[.int .i64 0, .bool false, .int .u64 0, .int .u64 0, .bool false, .int .u64 0, .int .u64 0, .int .i64 0, .int .i64 0, .int .i64 0, .int .i64 0, .int .i64 0, .int .u64 0, .int .i64 0] 101) = w1 at *
 have c0 := (hC.out _ hb1 0 (by omega)).trans rfl
 have c1 := (hC.out _ hb1 1 (by omega)).trans rfl
 have c2 := (hC.out _ hb1 2 (by omega)).trans rfl
 have c3 := (hC.out _ hb1 3 (by omega)).trans rfl
 have c4 := (hC.out _ hb1 4 (by omega)).trans rfl
 have c5 := (hC.out _ hb1 5 (by omega)).trans rfl
 have c6 := (hC.out _ hb1 6 (by omega)).trans rfl
 have c7 := (hC.out _ hb1 7 (by omega)).trans rfl
 have c8 := (hC.out _ hb1 8 (by omega)).trans rfl
 have c9 := (hC.out _ hb1 9 (by omega)).trans rfl
 have c10 := (hC.out _ hb1 10 (by omega)).trans rfl
 have c11 := (hC.out _ hb1 11 (by omega)).trans rfl
 have c12 := (hC.out _ hb1 12 (by omega)).trans rfl
 have c13 := (hC.out _ hb1 13 (by omega)).trans rfl
 simp at c0 c1 c2 c3 c4 c5 c6 c7 c8 c9 c10 c11 c12 c13
 try rw [hr]
 go_upto_region 2 with fail
 have hb2 : Below w.heap.size w (w1.alloc (.cells #[.int .i64 sl.t.p, .bool sl.t.v, .int .u64 sl.t.hi, .int .u64 sl.t.lo, .bool sl.t.v', .int .u64 sl.t.hi', .int .u64 sl.t.lo', .int .i64 sl.t.sp, .int .i64 sl.t.dp, .int .i64 sl.bk, .int .i64 sl.st, .int .i64 (i : Int), .int .u64 sl.gen, .int .i64 sl.due] 101)) := below_alloc hb1 _
 have B2 := Blk.new w1 101 #[.int .i64 sl.t.p, .bool sl.t.v, .int .u64 sl.t.hi, .int .u64 sl.t.lo, .bool sl.t.v', .int .u64 sl.t.hi', .int .u64 sl.t.lo', .int .i64 sl.t.sp, .int .i64 sl.t.dp, .int .i64 sl.bk, .int .i64 sl.st, .int .i64 (i : Int), .int .u64 sl.gen, .int .i64 sl.due]
 have B1' := B1.alloc (.cells #[.int .i64 sl.t.p, .bool sl.t.v, .int .u64 sl.t.hi, .int .u64 sl.t.lo, .bool sl.t.v', .int .u64 sl.t.hi', .int .u64 sl.t.lo', .int .i64 sl.t.sp, .int .i64 sl.t.dp, .int .i64 sl.bk, .int .i64 sl.st, .int .i64 (i : Int), .int .u64 sl.gen, .int .i64 sl.due] 101)
 have hrq : r ≠ w1.heap.size := by have := B1.lt; omega
 have hrw : w.heap.size ≤ r := by omega
 have hqw : w.heap.size ≤ w1.heap.size := hb1.size
 generalize w1.alloc (.cells #[.int .i64 sl.t.p, .bool sl.t.v, .int .u64 sl.t.hi, .int .u64 sl.t.lo, .bool sl.t.v', .int .u64 sl.t.hi', .int .u64 sl.t.lo', .int .i64 sl.t.sp, .int .i64 sl.t.dp, .int .i64 sl.bk, .int .i64 sl.st, .int .i64 (i : Int), .int .u64 sl.gen, .int .i64 sl.due] 101) = w2 at *
 generalize w1.heap.size = q at *
 clear c0 c1 c2 c3 c4 c5 c6 c7 c8 c9 c10 c11 c12 c13 B1
 have hXlt : ∀ b, X b → b < w.heap.size := fun b hb => h.out.lt hb
 have hsbX : X sb := by
  obtain ⟨_, _, _, _, _, _, _, _, h5, _⟩ := h.out
  exact (h5 _).2 (.inr (.inl rfl))
 have hsbw := hXlt _ hsbX
 have hr2 := B1'.lt
 have hq2 := B2.lt
 have hz2 := hb2.size
 have hT2 := h.out.call (hb2.drew)
 have c11 := (hC.out _ hb2.drew 11 (by omega)).trans rfl
 simp at c11
 rw [hsl] at c11
 obtain ⟨wg, c5, fs, F2, Y2, -, -, hW, hYn, -, hput, -⟩ := hT2.wheel
 have UN := Lib.hid (wheelp_unset hW i (by omega))
 have hK := Lib.hid fun W (k : Chg Y2 w2.drew W) => show W.cell? ⟨g, 5, none⟩ = some (.pointer (some ⟨wg, 0, none⟩)) ∧ W.cell? ⟨sb, i * 15 + 11, none⟩ = some (.int .i64 (i : Int)) from
  ⟨(cell_chg k (block_lt_of_cell c5) (fun e => (hYn _ e).1 rfl)).trans c5, (cell_chg k (block_lt_of_cell c11) (fun e => (hYn _ e).2 rfl)).trans c11⟩
 replace hput := Lib.hid hput
 clear hW hT2 hYn
 replace B1' := Lib.hid B1'
 replace B2 := Lib.hid B2
 go_region_held3 (fun W => W.cell? ⟨g, 5, none⟩ = some (.pointer (some ⟨wg, 0, none⟩)) ∧ W.cell? ⟨sb, i * 15 + 11, none⟩ = some (.int .i64 (i : Int))) ((first | assumption | ((refine ⟨?_, ?_⟩; (first | assumption | exact (Below.refl _ _).drew | exact Below.refl _ _); go_keep)))) (first
  | (go_at_call 144; (with_reducible refine UN.out.mono ?_); rintro e w3 ⟨rfl, hW3, hcY⟩; have hS3 := hK.out _ hcY))
 all_goals
  obtain ⟨X3, hT3, hc3, hX3⟩ := hput.out _ _ _ _ hW3 hcY (fun b hb => .inl hb)
  have B1a := B1'.out.chg (w1 := w3) hc3 (fun e => by have := hXlt _ e; omega)
  have B2a := B2.out.chg (w1 := w3) hc3 (fun e => by have := hXlt _ e; omega)
  clear hput hK UN hcY hW3 hS3 c5 c11
  have hz3 := hc3.size
  have hT3d := hT3.call (Below.refl _ _).drew
  have c11 := (hT3d.slot hi 11 (by omega)).trans rfl
  simp [hslE, hsl] at c11
  obtain ⟨wg3, -, fs3, F3, Y3, c4, hP, -, -, hFn, -, hput⟩ := hT3d.wheel
  have PU := Lib.hid (push_any _ _ _ _ (i : Int) _ hP)
  have hK := Lib.hid fun W (k : Chg F3 w3.drew W) => show W.cell? ⟨g, 4, none⟩ = some (.pointer (some ⟨fs3, 0, none⟩)) ∧ W.cell? ⟨sb, i * 15 + 11, none⟩ = some (.int .i64 (i : Int)) from
   ⟨(cell_chg k (block_lt_of_cell c4) (fun e => (hFn _ e).1 rfl)).trans c4, (cell_chg k (block_lt_of_cell c11) (fun e => (hFn _ e).2 rfl)).trans c11⟩
  replace hput := Lib.hid hput
  clear hP hT3d hT3 hFn
  replace B1a := Lib.hid B1a
  replace B2a := Lib.hid B2a
  go_wp2_with fail
  go_region_held3 (fun W => W.cell? ⟨g, 4, none⟩ = some (.pointer (some ⟨fs3, 0, none⟩)) ∧ W.cell? ⟨sb, i * 15 + 11, none⟩ = some (.int .i64 (i : Int))) ((first | assumption | ((refine ⟨?_, ?_⟩; (first | assumption | exact (Below.refl _ _).drew | exact Below.refl _ _); go_keep)))) (first
   | (go_at_call 136; (with_reducible refine PU.out.mono ?_); rintro e w4 ⟨rfl, F4, hP4, hcF, hF4⟩; have hS4 := hK.out _ hcF))
  all_goals
   obtain ⟨X4, hT4, hc4, hX4⟩ := hput.out _ _ _ hP4 hcF hF4
   have hX3n : ∀ b, X3 b → b ≠ r ∧ b ≠ q := fun b hb => by
    rcases hX3 b hb with hb | hb
    ·
     have := hXlt _ hb
     omega
    ·
     have hb : w2.heap.size ≤ b := hb
     omega
   have hX4n : ∀ b, X4 b → b ≠ r ∧ b ≠ q := fun b hb => by
    rcases hX4 b hb with hb | hb
    · exact hX3n b hb
    ·
     have hb : w3.heap.size ≤ b := hb
     have hz3' : w2.heap.size ≤ w3.heap.size := hz3
     omega
   have B1b := B1a.out.chg (w1 := w4) hc4 (fun e => by have := hX3n _ e; omega)
   have B2b := B2a.out.chg (w1 := w4) hc4 (fun e => by have := hX3n _ e; omega)
   clear hput hK PU hcF hP4 hS4 c4 c11
   have q11 := (B2b.cell 11).trans rfl
   have q12 := (B2b.cell 12).trans rfl
   have c0 := (hT4.slot hi 0 (by omega)).trans rfl
   have f0 := hT4.slotf (i * 15 + 0)
   have c1 := (hT4.slot hi 1 (by omega)).trans rfl
   have f1 := hT4.slotf (i * 15 + 1)
   have c2 := (hT4.slot hi 2 (by omega)).trans rfl
   have f2 := hT4.slotf (i * 15 + 2)
   have c3 := (hT4.slot hi 3 (by omega)).trans rfl
   have f3 := hT4.slotf (i * 15 + 3)
   have c4 := (hT4.slot hi 4 (by omega)).trans rfl
   have f4 := hT4.slotf (i * 15 + 4)
   have c5 := (hT4.slot hi 5 (by omega)).trans rfl
   have f5 := hT4.slotf (i * 15 + 5)
   have c6 := (hT4.slot hi 6 (by omega)).trans rfl
   have f6 := hT4.slotf (i * 15 + 6)
   have c7 := (hT4.slot hi 7 (by omega)).trans rfl
   have f7 := hT4.slotf (i * 15 + 7)
   have c8 := (hT4.slot hi 8 (by omega)).trans rfl
   have f8 := hT4.slotf (i * 15 + 8)
   have c9 := (hT4.slot hi 9 (by omega)).trans rfl
   have f9 := hT4.slotf (i * 15 + 9)
   have c10 := (hT4.slot hi 10 (by omega)).trans rfl
   have f10 := hT4.slotf (i * 15 + 10)
   have c11 := (hT4.slot hi 11 (by omega)).trans rfl
   have f11 := hT4.slotf (i * 15 + 11)
   have c12 := (hT4.slot hi 12 (by omega)).trans rfl
   have f12 := hT4.slotf (i * 15 + 12)
   have c13 := (hT4.slot hi 13 (by omega)).trans rfl
   have f13 := hT4.slotf (i * 15 + 13)
   have c14 := (hT4.slot hi 14 (by omega)).trans rfl
   have f14 := hT4.slotf (i * 15 + 14)
   simp at q11 q12 f0 c0 c1 c2 c3 c4 c5 c6 c7 c8 c9 c10 c11 c12 c13 c14
   replace hT4 := Lib.hid hT4
   go_upto_region 5 with fail
   have hST : TabP (((((((((((((((w4.setCell ⟨sb, i * 15, none⟩ (.int .i64 0)).setCell ⟨sb, i * 15 + 1, none⟩ (.bool false)).setCell ⟨sb, i * 15 + 2, none⟩ (.int .u64 0)).setCell ⟨sb, i * 15 + 3, none⟩ (.int .u64 0)).setCell ⟨sb, i * 15 + 4, none⟩ (.bool false)).setCell ⟨sb, i * 15 + 5, none⟩ (.int .u64 0)).setCell ⟨sb, i * 15 + 6, none⟩ (.int .u64 0)).setCell ⟨sb, i * 15 + 7, none⟩ (.int .i64 0)).setCell ⟨sb, i * 15 + 8, none⟩ (.int .i64 0)).setCell ⟨sb, i * 15 + 9, none⟩ (.int .i64 0)).setCell ⟨sb, i * 15 + 10, none⟩ (.int .i64 0)).setCell ⟨sb, i * 15 + 11, none⟩ (.int .i64 (i : Int))).setCell ⟨sb, i * 15 + 12, none⟩ (.int .u64 (IntKind.u64.wrap (sl.gen + 1)))).setCell ⟨sb, i * 15 + 13, none⟩ (.int .i64 0)).setCell ⟨sb, i * 15 + 14, none⟩ (.bool false)) g sb n c _ X4 ∧ Chg (· = sb) w4 (((((((((((((((w4.setCell ⟨sb, i * 15, none⟩ (.int .i64 0)).setCell ⟨sb, i * 15 + 1, none⟩ (.bool false)).setCell ⟨sb, i * 15 + 2, none⟩ (.int .u64 0)).setCell ⟨sb, i * 15 + 3, none⟩ (.int .u64 0)).setCell ⟨sb, i * 15 + 4, none⟩ (.bool false)).setCell ⟨sb, i * 15 + 5, none⟩ (.int .u64 0)).setCell ⟨sb, i * 15 + 6, none⟩ (.int .u64 0)).setCell ⟨sb, i * 15 + 7, none⟩ (.int .i64 0)).setCell ⟨sb, i * 15 + 8, none⟩ (.int .i64 0)).setCell ⟨sb, i * 15 + 9, none⟩ (.int .i64 0)).setCell ⟨sb, i * 15 + 10, none⟩ (.int .i64 0)).setCell ⟨sb, i * 15 + 11, none⟩ (.int .i64 (i : Int))).setCell ⟨sb, i * 15 + 12, none⟩ (.int .u64 (IntKind.u64.wrap (sl.gen + 1)))).setCell ⟨sb, i * 15 + 13, none⟩ (.int .i64 0)).setCell ⟨sb, i * 15 + 14, none⟩ (.bool false)) := hT4.out.setAll hi ⟨tup0, 0, 0, (i : Int), IntKind.u64.wrap (sl.gen + 1), 0, false⟩
   generalize (((((((((((((((w4.setCell ⟨sb, i * 15, none⟩ (.int .i64 0)).setCell ⟨sb, i * 15 + 1, none⟩ (.bool false)).setCell ⟨sb, i * 15 + 2, none⟩ (.int .u64 0)).setCell ⟨sb, i * 15 + 3, none⟩ (.int .u64 0)).setCell ⟨sb, i * 15 + 4, none⟩ (.bool false)).setCell ⟨sb, i * 15 + 5, none⟩ (.int .u64 0)).setCell ⟨sb, i * 15 + 6, none⟩ (.int .u64 0)).setCell ⟨sb, i * 15 + 7, none⟩ (.int .i64 0)).setCell ⟨sb, i * 15 + 8, none⟩ (.int .i64 0)).setCell ⟨sb, i * 15 + 9, none⟩ (.int .i64 0)).setCell ⟨sb, i * 15 + 10, none⟩ (.int .i64 0)).setCell ⟨sb, i * 15 + 11, none⟩ (.int .i64 (i : Int))).setCell ⟨sb, i * 15 + 12, none⟩ (.int .u64 (IntKind.u64.wrap (sl.gen + 1)))).setCell ⟨sb, i * 15 + 13, none⟩ (.int .i64 0)).setCell ⟨sb, i * 15 + 14, none⟩ (.bool false)) = w5 at *
   obtain ⟨hT5, hc5⟩ := hST
   have B1c := B1b.chg hc5 (fun e => by have : r = sb := e; omega)
   have B2c := B2b.chg hc5 (fun e => by have : q = sb := e; omega)
   clear q11 q12 c0 f0 c1 f1 c2 f2 c3 f3 c4 f4 c5 f5 c6 f6 c7 f7 c8 f8 c9 f9 c10 f10 c11 f11 c12 f12 c13 f13 c14 f14 hT4 B1b B2b
   have q0 := (B2c.cell 0).trans rfl
   have r0 := (B1c.cell 0).trans rfl
   have q1 := (B2c.cell 1).trans rfl
   have r1 := (B1c.cell 1).trans rfl
   have q2 := (B2c.cell 2).trans rfl
   have r2 := (B1c.cell 2).trans rfl
   have q3 := (B2c.cell 3).trans rfl
   have r3 := (B1c.cell 3).trans rfl
   have q4 := (B2c.cell 4).trans rfl
   have r4 := (B1c.cell 4).trans rfl
   have q5 := (B2c.cell 5).trans rfl
   have r5 := (B1c.cell 5).trans rfl
   have q6 := (B2c.cell 6).trans rfl
   have r6 := (B1c.cell 6).trans rfl
   have q7 := (B2c.cell 7).trans rfl
   have r7 := (B1c.cell 7).trans rfl
   have q8 := (B2c.cell 8).trans rfl
   have r8 := (B1c.cell 8).trans rfl
   have q9 := (B2c.cell 9).trans rfl
   have r9 := (B1c.cell 9).trans rfl
   have q10 := (B2c.cell 10).trans rfl
   have r10 := (B1c.cell 10).trans rfl
   have q11 := (B2c.cell 11).trans rfl
   have r11 := (B1c.cell 11).trans rfl
   have q12 := (B2c.cell 12).trans rfl
   have r12 := (B1c.cell 12).trans rfl
   have q13 := (B2c.cell 13).trans rfl
   have r13 := (B1c.cell 13).trans rfl
   have rf := B1c.frozen
   simp at q0 r0 q1 r1 q2 r2 q3 r3 q4 r4 q5 r5 q6 r6 q7 r7 q8 r8 q9 r9 q10 r10 q11 r11 q12 r12 q13 r13
   replace hT5 := Lib.hid hT5
   replace B1c := Lib.hid B1c
   go_wp2_with fail
   have B6 := ((((((((((((((B1c.out.set_ 0 (.int .i64 sl.t.p)).set_ 1 (.bool sl.t.v)).set_ 2 (.int .u64 sl.t.hi)).set_ 3 (.int .u64 sl.t.lo)).set_ 4 (.bool sl.t.v')).set_ 5 (.int .u64 sl.t.hi')).set_ 6 (.int .u64 sl.t.lo')).set_ 7 (.int .i64 sl.t.sp)).set_ 8 (.int .i64 sl.t.dp)).set_ 9 (.int .i64 sl.bk)).set_ 10 (.int .i64 sl.st)).set_ 11 (.int .i64 (i : Int))).set_ 12 (.int .u64 sl.gen)).set_ 13 (.int .i64 sl.due))
   simp at B6
   have hc6 : Chg (· = r) w5 ((((((((((((((w5.setCell ⟨r, 0, none⟩ (.int .i64 sl.t.p)).setCell ⟨r, 1, none⟩ (.bool sl.t.v)).setCell ⟨r, 2, none⟩ (.int .u64 sl.t.hi)).setCell ⟨r, 3, none⟩ (.int .u64 sl.t.lo)).setCell ⟨r, 4, none⟩ (.bool sl.t.v')).setCell ⟨r, 5, none⟩ (.int .u64 sl.t.hi')).setCell ⟨r, 6, none⟩ (.int .u64 sl.t.lo')).setCell ⟨r, 7, none⟩ (.int .i64 sl.t.sp)).setCell ⟨r, 8, none⟩ (.int .i64 sl.t.dp)).setCell ⟨r, 9, none⟩ (.int .i64 sl.bk)).setCell ⟨r, 10, none⟩ (.int .i64 sl.st)).setCell ⟨r, 11, none⟩ (.int .i64 (i : Int))).setCell ⟨r, 12, none⟩ (.int .u64 sl.gen)).setCell ⟨r, 13, none⟩ (.int .i64 sl.due)) := Chg.setCell (F := (· = r)) (p := ⟨r, 13, none⟩) (Chg.setCell (F := (· = r)) (p := ⟨r, 12, none⟩) (Chg.setCell (F := (· = r)) (p := ⟨r, 11, none⟩) (Chg.setCell (F := (· = r)) (p := ⟨r, 10, none⟩) (Chg.setCell (F := (· = r)) (p := ⟨r, 9, none⟩) (Chg.setCell (F := (· = r)) (p := ⟨r, 8, none⟩) (Chg.setCell (F := (· = r)) (p := ⟨r, 7, none⟩) (Chg.setCell (F := (· = r)) (p := ⟨r, 6, none⟩) (Chg.setCell (F := (· = r)) (p := ⟨r, 5, none⟩) (Chg.setCell (F := (· = r)) (p := ⟨r, 4, none⟩) (Chg.setCell (F := (· = r)) (p := ⟨r, 3, none⟩) (Chg.setCell (F := (· = r)) (p := ⟨r, 2, none⟩) (Chg.setCell (F := (· = r)) (p := ⟨r, 1, none⟩) (Chg.setCell (F := (· = r)) (p := ⟨r, 0, none⟩) (Chg.refl _ _) (fun _ => rfl) _) (fun _ => rfl) _) (fun _ => rfl) _) (fun _ => rfl) _) (fun _ => rfl) _) (fun _ => rfl) _) (fun _ => rfl) _) (fun _ => rfl) _) (fun _ => rfl) _) (fun _ => rfl) _) (fun _ => rfl) _) (fun _ => rfl) _) (fun _ => rfl) _) (fun _ => rfl) _
   generalize ((((((((((((((w5.setCell ⟨r, 0, none⟩ (.int .i64 sl.t.p)).setCell ⟨r, 1, none⟩ (.bool sl.t.v)).setCell ⟨r, 2, none⟩ (.int .u64 sl.t.hi)).setCell ⟨r, 3, none⟩ (.int .u64 sl.t.lo)).setCell ⟨r, 4, none⟩ (.bool sl.t.v')).setCell ⟨r, 5, none⟩ (.int .u64 sl.t.hi')).setCell ⟨r, 6, none⟩ (.int .u64 sl.t.lo')).setCell ⟨r, 7, none⟩ (.int .i64 sl.t.sp)).setCell ⟨r, 8, none⟩ (.int .i64 sl.t.dp)).setCell ⟨r, 9, none⟩ (.int .i64 sl.bk)).setCell ⟨r, 10, none⟩ (.int .i64 sl.st)).setCell ⟨r, 11, none⟩ (.int .i64 (i : Int))).setCell ⟨r, 12, none⟩ (.int .u64 sl.gen)).setCell ⟨r, 13, none⟩ (.int .i64 sl.due)) = w6 at *
   clear q0 r0 q1 r1 q2 r2 q3 r3 q4 r4 q5 r5 q6 r6 q7 r7 q8 r8 q9 r9 q10 r10 q11 r11 q12 r12 q13 r13
   have r0 := (B6.cell 0).trans rfl
   have r1 := (B6.cell 1).trans rfl
   have r2 := (B6.cell 2).trans rfl
   have r3 := (B6.cell 3).trans rfl
   have r4 := (B6.cell 4).trans rfl
   have r5 := (B6.cell 5).trans rfl
   have r6 := (B6.cell 6).trans rfl
   have r7 := (B6.cell 7).trans rfl
   have r8 := (B6.cell 8).trans rfl
   have r9 := (B6.cell 9).trans rfl
   have r10 := (B6.cell 10).trans rfl
   have r11 := (B6.cell 11).trans rfl
   have r12 := (B6.cell 12).trans rfl
   have r13 := (B6.cell 13).trans rfl
   simp at r0 r1 r2 r3 r4 r5 r6 r7 r8 r9 r10 r11 r12 r13
   have hT6 := hT5.out.chg hc6 (fun b hb e => (hX4n b hb).1 e)
   have hE : (⟨tup0, 0, 0, (i : Int), IntKind.u64.wrap (sl.gen + 1), 0, false⟩ : Slt) = clrS sl := by unfold clrS; rw [hsl]
   rw [hE] at hT6
   have hC6 : Chg X w w6 := by
    have a1 : Chg X w w3 := (Chg.of_below hb2).trans (G := X) (show Chg X w2 w3 from hc3) (fun _ _ h => h)
    have a2 : Chg X w w4 := a1.trans (G := X3) (show Chg X3 w3 w4 from hc4) (fun b hb hx => by
     rcases hX3 b hx with h5 | h5
     · exact h5
     ·
      have h5 : w2.heap.size ≤ b := h5
      omega)
    have a3 : Chg X w w5 := a2.trans (G := (· = sb)) hc5 (fun b _ e => by have e2 : b = sb := e; rw [e2]; exact hsbX)
    exact a3.trans (G := (· = r)) hc6 (fun b hb e => by have e2 : b = r := e; omega)
   have hX6 : ∀ b, X4 b → X b ∨ w.heap.size ≤ b := fun b hb => by
    rcases hX4 b hb with h5 | h5
    ·
     rcases hX3 b h5 with h6 | h6
     · exact .inl h6
     ·
      have h6 : w2.heap.size ≤ b := h6
      exact .inr (by omega)
    ·
     have h5 : w3.heap.size ≤ b := h5
     have h7 : w2.heap.size ≤ w3.heap.size := hz3
     exact .inr (by omega)
   have hv : sl.val = .agg #[.int .i64 sl.t.p, .bool sl.t.v, .int .u64 sl.t.hi, .int .u64 sl.t.lo, .bool sl.t.v', .int .u64 sl.t.hi', .int .u64 sl.t.lo', .int .i64 sl.t.sp, .int .i64 sl.t.dp, .int .i64 sl.bk, .int .i64 sl.st, .int .i64 (i : Int), .int .u64 sl.gen, .int .i64 sl.due] := by rw [← hsl]
   replace hT6 := Lib.hid hT6
   replace hC6 := Lib.hid hC6
   replace hX6 := Lib.hid hX6
   replace hv := Lib.hid hv
   clear hc6 hX4 hX3 hXlt hX3n hX4n hc4 hc3 hc5 hT5 B1c B6 B2c rf h hC hslE
   refine bodyPost_ret (v := .agg #[.int .i64 sl.t.p, .bool sl.t.v, .int .u64 sl.t.hi, .int .u64 sl.t.lo, .bool sl.t.v', .int .u64 sl.t.hi', .int .u64 sl.t.lo', .int .i64 sl.t.sp, .int .i64 sl.t.dp, .int .i64 sl.bk, .int .i64 sl.st, .int .i64 (i : Int), .int .u64 sl.gen, .int .i64 sl.due]) (by simp [results, Tryz.results126, go_sem, *]) rfl ?_
   exact ⟨by rw [hv.out], X4, hT6.out, hC6.out, by rw [hr] at hX6; exact hX6.out⟩
end
abbrev Slt.entA (x : Slt) : Array Value := #[.int .i64 x.t.p, .bool x.t.v, .int .u64 x.t.hi, .int .u64 x.t.lo, .bool x.t.v', .int .u64 x.t.hi', .int .u64 x.t.lo', .int .i64 x.t.sp, .int .i64 x.t.dp, .int .i64 x.bk, .int .i64 x.st, .int .i64 x.sl, .int .u64 x.gen, .int .i64 x.due]
@[reducible] def setEnt (w : World) (r : Nat) (x : Slt) : World := ((((((((((((((w.setCell ⟨r, 0, none⟩ (.int .i64 x.t.p)).setCell ⟨r, 1, none⟩ (.bool x.t.v)).setCell ⟨r, 2, none⟩ (.int .u64 x.t.hi)).setCell ⟨r, 3, none⟩ (.int .u64 x.t.lo)).setCell ⟨r, 4, none⟩ (.bool x.t.v')).setCell ⟨r, 5, none⟩ (.int .u64 x.t.hi')).setCell ⟨r, 6, none⟩ (.int .u64 x.t.lo')).setCell ⟨r, 7, none⟩ (.int .i64 x.t.sp)).setCell ⟨r, 8, none⟩ (.int .i64 x.t.dp)).setCell ⟨r, 9, none⟩ (.int .i64 x.bk)).setCell ⟨r, 10, none⟩ (.int .i64 x.st)).setCell ⟨r, 11, none⟩ (.int .i64 x.sl)).setCell ⟨r, 12, none⟩ (.int .u64 x.gen)).setCell ⟨r, 13, none⟩ (.int .i64 x.due))
def slt0 : Slt := ⟨tup0, 0, 0, 0, 0, 0, false⟩
def TabTo (w w' : World) (g sb n : Nat) (c : TCfg) (s : TSt) (X : Nat → Prop) : Prop :=
 ∃ X', TabP w' g sb n c s X' ∧ Chg X w w' ∧ ∀ b, X' b → X b ∨ w.heap.size ≤ b
section
variable {w w1 w2 w3 : World} {g sb n r : Nat} {c : TCfg} {s s' : TSt} {X F : Nat → Prop}
theorem TabP.gX (h : TabP w g sb n c s X) : X g := by
 obtain ⟨_, _, _, _, _, _, _, _, h5, _⟩ := h
 exact (h5 _).2 (.inl rfl)
theorem TabP.sbX (h : TabP w g sb n c s X) : X sb := by
 obtain ⟨_, _, _, _, _, _, _, _, h5, _⟩ := h
 exact (h5 _).2 (.inr (.inl rfl))
theorem TabTo.of (h : TabP w1 g sb n c s X) (k : Chg X w w1) : TabTo w w1 g sb n c s X := ⟨X, h, k, fun _ h => .inl h⟩
theorem TabTo.trans (t : TabTo w w1 g sb n c s X) (k : ∀ X1, TabP w1 g sb n c s X1 → TabTo w1 w2 g sb n c s' X1) : TabTo w w2 g sb n c s' X := by
 obtain ⟨X1, h1, h2, h3⟩ := t
 obtain ⟨X2, k1, k2, k3⟩ := k X1 h1
 have hz := h2.size
 exact ⟨X2, k1, h2.trans (G := X1) k2 (fun b hb hx => (h3 b hx).elim id fun h => absurd h (by omega)), fun b hx => by
  rcases k3 b hx with h | h
  · exact h3 b h
  · exact .inr (by omega)⟩
def goS (n : Nat) (s : TSt) (i : Nat) : TSt := { s with E := updE s.E i (clrS (s.E i)), M := lmDel s.M i, L := pushL n s.L i }
theorem tab_goes2 (h : TabP w g sb n c s X) (i : Nat) (hi : i < n) (hsl : (s.E i).sl = i) :
  Calls Tryz.prog 126 #[.pointer (some ⟨g, 0, none⟩), .pointer (some ⟨sb, i * 15, none⟩)] w fun e w' => e = .returned (s.E i).val ∧ TabTo w w' g sb n c (goS n s i) X := tab_goes h i hi hsl
def closeOk (n : Nat) (s : TSt) (i : Int) : Bool := lookOk n i && (s.E i.toNat).used
def closeV (n : Nat) (s : TSt) (i : Int) : Slt := if closeOk n s i then s.E i.toNat else slt0
def closeS (n : Nat) (s : TSt) (i : Int) : TSt := if closeOk n s i then goS n (lookS n i s) i.toNat else lookS n i s
end
def awaitS (c : TCfg) (s : TSt) (i : Nat) : TSt := { s with E := updE s.E i { s.E i with due := dueT c s.now (s.E i).st }, M := lmPut s.M i (dueT c s.now (s.E i).st) }
def TCfg.right (c : TCfg) : Prop := ∀ st, 0 ≤ idleS c.a c.b c.c c.d st ∧ idleS c.a c.b c.c c.d st ≤ 1048576
section
variable {w w1 w2 w3 : World} {g sb n r : Nat} {c : TCfg} {s s' : TSt} {X F : Nat → Prop}
def nextT (x : Slt) (fl : Int) : Slt := { x with st := nextS x.st fl }
def touchS1 (n : Nat) (s : TSt) (i : Int) (fl : Int) : TSt := { lookS n i s with E := updE s.E i.toNat (nextT (s.E i.toNat) fl) }
def touchS (c : TCfg) (n : Nat) (s : TSt) (i : Int) (fl : Int) : TSt :=
 if closeOk n s i then (if nextS (s.E i.toNat).st fl = 4 then goS n (touchS1 n s i fl) i.toNat else awaitS c (touchS1 n s i fl) i.toNat) else lookS n i s
def touchV (c : TCfg) (n : Nat) (s : TSt) (i : Int) (fl : Int) : Slt :=
 if closeOk n s i then (if nextS (s.E i.toNat).st fl = 4 then nextT (s.E i.toNat) fl else { nextT (s.E i.toNat) fl with due := dueT c s.now (nextS (s.E i.toNat).st fl) }) else slt0
end
section
variable {w w1 w2 w3 : World} {g sb n r : Nat} {c : TCfg} {s s' : TSt} {X F : Nat → Prop}
@[reducible] def openW (w : World) (sb i : Nat) (t : Tup) (bk st : Int) : World := ((((((((((((w.setCell ⟨sb, i * 15, none⟩ (.int .i64 t.p)).setCell ⟨sb, i * 15 + 1, none⟩ (.bool t.v)).setCell ⟨sb, i * 15 + 2, none⟩ (.int .u64 ((t.hi : Nat) : Int))).setCell ⟨sb, i * 15 + 3, none⟩ (.int .u64 ((t.lo : Nat) : Int))).setCell ⟨sb, i * 15 + 4, none⟩ (.bool t.v')).setCell ⟨sb, i * 15 + 5, none⟩ (.int .u64 ((t.hi' : Nat) : Int))).setCell ⟨sb, i * 15 + 6, none⟩ (.int .u64 ((t.lo' : Nat) : Int))).setCell ⟨sb, i * 15 + 7, none⟩ (.int .i64 t.sp)).setCell ⟨sb, i * 15 + 8, none⟩ (.int .i64 t.dp)).setCell ⟨sb, i * 15 + 9, none⟩ (.int .i64 bk)).setCell ⟨sb, i * 15 + 10, none⟩ (.int .i64 st)).setCell ⟨sb, i * 15 + 14, none⟩ (.bool true))
def openOk (t : Tup) (bk fl : Int) : Bool := tupOk t && decide (0 ≤ bk ∧ bk ≤ 65535) && !(beginS t.p fl == 0)
def openE (s : TSt) (t : Tup) (bk fl : Int) : Int := if openOk t bk fl then (if s.L.isEmpty then 9 else 0) else 1
def openX (x : Slt) (t : Tup) (bk fl : Int) : Slt := { x with t := t, bk := bk, st := beginS t.p fl, used := true }
def openS1 (n : Nat) (s : TSt) (i : Int) (l : List Int) (t : Tup) (bk fl : Int) : TSt := { lookS n i { s with L := l } with E := updE s.E i.toNat (openX (s.E i.toNat) t bk fl) }
def openS (c : TCfg) (n : Nat) (s : TSt) (t : Tup) (bk fl : Int) : TSt :=
 if openOk t bk fl then (match s.L with | [] => s | i :: l => awaitS c (openS1 n s i l t bk fl) i.toNat) else s
def openV (c : TCfg) (s : TSt) (t : Tup) (bk fl : Int) : Slt :=
 if openOk t bk fl then (match s.L with | [] => slt0 | i :: _ => { openX (s.E i.toNat) t bk fl with due := dueT c s.now (beginS t.p fl) }) else slt0
end
def tupB (t u : Tup) : Bool := t.p == u.p && (t.v == u.v && ((t.hi == u.hi) && (t.lo == u.lo && (t.v' == u.v' && (t.hi' == u.hi' && (t.lo' == u.lo' && (t.sp == u.sp && t.dp == u.dp)))))))
def findOk (n : Nat) (s : TSt) (t : Tup) (i low bt : Int) : Bool := closeOk n s i && (decide (0 ≤ bt ∧ bt ≤ 63) && (tupB (s.E i.toNat).t t && (bits BinOp.and IntKind.u64 (s.E i.toNat).gen (maskI bt) == low)))
def findV (n : Nat) (s : TSt) (t : Tup) (i low bt : Int) : Slt := if findOk n s t i low bt then s.E i.toNat else slt0
section
variable {w w1 w2 w3 : World} {g sb n r : Nat} {c : TCfg} {s s' : TSt} {X F : Nat → Prop}
end
theorem info_ent : (Tryz.prog.info? 101).map (fun i => (i.zero, i.size, i.bytes)) = some (some (.agg slt0.entA), 14, 112) := by kernel_rfl
abbrev OwnE (w : World) (base : Nat) (A : Option Addr) (c : Nat) (l : List Slt) : Prop := OwnA Slt.ent 14 101 w base A c l
theorem wpList_push_ent {W : World} {cs : Array Value} {ops : Array Oper} {rest : List Oper} {o : Oper} {a : Act} {Q : Exit → Act → World → Prop} (hgd : o.guard = none) (s x : Operand)
  (ho : o.op = .call { callee := .builtin .append, args := #[s, x], argTypes := #[76, 76] })
  (base : Nat) (A : Option Addr) (c : Nat) (l : List Slt) (v : Slt) (n : Nat) (hn : l.length = n) (hs : a.eval s = .slice A n c) (hown : OwnE W base A c l) (g : Nat) (hg : g = W.heap.size) (hcs : v.ent.toArray = cs)
  (hx : a.eval x = .slice (some ⟨g, 0, none⟩) 1 1) (hl : l.length ≤ 1000000) (hbase : base ≤ W.heap.size)
  (h : ∀ A' c' w', OwnE w' base A' c' (l ++ [v]) → Pushed W w' A A' → wpList Tryz.prog ops Q rest (a.put o.dst (.slice A' (n + 1) c')) w') : wpList Tryz.prog ops Q (o :: rest) a (W.alloc (.cells cs 101)) := by
 obtain ⟨i0, hi0, hz0, hz1, hz2⟩ := info_parts info_ent
 exact wpList_push Slt.ent 14 (fun _ => rfl) (fun b u hu => by
  simp at hu; rcases hu with rfl | rfl | rfl | rfl | rfl | rfl | rfl | rfl | rfl | rfl | rfl | rfl | rfl | rfl <;> rfl) (by omega) 76 i0 _ 112 Tryz.underlying76 hi0 hz0 hz1 hz2 rfl (by omega) hgd s x ho base A c l v n hn hs hown g hg hcs hx hl hbase h
section
variable {w w1 w2 w3 : World} {g sb n r : Nat} {c : TCfg} {s s' : TSt} {X F : Nat → Prop}
theorem TabP.wheelGo (h : TabP w g sb n c s X) : ∃ wg Y, w.cell? ⟨g, 5, none⟩ = some (.pointer (some ⟨wg, 0, none⟩)) ∧ WheelP w wg c.G s.now s.M Y ∧ ∀ (w' : World) (now' : Int) (M' : LM), WheelP w' wg c.G now' M' Y → Chg Y w w' → TabP w' g sb n c { s with now := now', M := M' } X ∧ Chg X w w' := by
 obtain ⟨fs, wg, F', Y, h1, h2, h3, h4, h5, h6, h7, h8, h9⟩ := h
 have c5 := h1.cell 5
 simp at c5
 refine ⟨wg, Y, c5, h3, fun w' now' M' k1 k2 => ⟨⟨fs, wg, F', Y, h1.chg k2 (fun e => (h7 g (.inr e)).1 rfl), h2.chg k2 (fun b hb e => h6 b hb e), k1, h4.chg k2 (fun e => (h7 sb (.inr e)).2 rfl), h5, h6, h7, h8, h9⟩, k2.mono fun b _ hb => (h5 b).2 (.inr (.inr (.inr hb)))⟩⟩
def goAll (n : Nat) (s : TSt) (S : List Int) : TSt := S.foldl (fun s x => goS n s x.toNat) s
theorem goAll_take (n : Nat) (s : TSt) {S : List Int} {k : Nat} (hk : k < S.length) : goAll n s (S.take (k + 1)) = goS n (goAll n s (S.take k)) S[k].toNat := by
 unfold goAll
 rw [List.take_succ_eq_append_getElem hk, List.foldl_append]
 rfl
theorem goAll_sl {n : Nat} : ∀ (S : List Int) (s : TSt), (∀ k : Nat, k < n → (s.E k).sl = k) → ∀ k : Nat, k < n → ((goAll n s S).E k).sl = k
 | [], _, h => h
 | x :: S, s, h => goAll_sl S (goS n s x.toNat) fun k hk => by
  show (updE s.E x.toNat (clrS (s.E x.toNat)) k).sl = k
  unfold updE
  split
  ·
   next e =>
   subst e
   exact h _ hk
  · exact h k hk
theorem goAll_E {n : Nat} : ∀ (S : List Int) (s : TSt) (k : Nat), (∀ x ∈ S, x.toNat ≠ k) → (goAll n s S).E k = s.E k
 | [], _, _, _ => rfl
 | x :: S, s, k, h => by
  refine (goAll_E S (goS n s x.toNat) k fun y hy => h y (List.mem_cons_of_mem _ hy)).trans ?_
  show updE s.E x.toNat (clrS (s.E x.toNat)) k = s.E k
  exact updE_ne _ _ (fun e => h x List.mem_cons_self e.symm)
theorem OwnA.low {α : Type} {cells : α → List Value} {m : Nat} {e : TypeId} {base base' c : Nat} {A : Option Addr} {L : List α} (h : OwnA cells m e w base A c L) (hb : base' ≤ base) : OwnA cells m e w base' A c L := by
 unfold OwnA at h ⊢
 refine ⟨h.1, ?_⟩
 rcases h.2 with h0 | ⟨g, cap, cur, h1, hg, r⟩
 · exact .inl h0
 · exact .inr ⟨g, cap, cur, h1, by omega, r⟩
def goTab (n : Nat) (s : TSt) (nw : Int) (S : List Int) : TSt := goAll n { s with now := goN s.now nw, M := delAll s.M S } S
def goEnts (s : TSt) (S : List Int) : List Slt := S.map fun x => s.E x.toNat
set_option maxRecDepth 100000 in
set_option maxHeartbeats 4000000 in
theorem tab_go (h : TabP w g sb n c s X) (hsl : ∀ k : Nat, k < n → (s.E k).sl = k) (hMn : ∀ x, lmHas s.M x = true → 0 ≤ x ∧ x < n) (nw : Int) :
  Calls Tryz.prog 106 #[.pointer (some ⟨g, 0, none⟩), .int .i64 nw] w fun e w' => ∃ (B : Option Addr) (q : Nat) (S : List Int), e = .returned (.tuple #[.slice B S.length q, .int .i64 (goE s.now nw)]) ∧ GoS c.G s.now nw s.M S ∧ OwnE w' w.heap.size B q (goEnts s S) ∧ (∀ x ∈ S, 0 ≤ x ∧ x < n) ∧ TabTo w w' g sb n c (goTab n s nw S) X := by
 obtain ⟨r1, r2, hn⟩ := h.rng
 obtain ⟨wg, Y, c5, hW, hput⟩ := h.wheelGo
 have hXlt : ∀ b, X b → b < w.heap.size := fun b hb => h.lt hb
 have GV := Lib.hid (tab_given h)
 have GO := Lib.hid (wheelp_go hW nw)
 clear hW
 replace h := Lib.hid h
 replace hsl := Lib.hid hsl
 replace hMn := Lib.hid hMn
 replace hXlt := Lib.hid hXlt
 replace hput := Lib.hid hput
 obtain ⟨ev, hev⟩ : ∃ ev, goE s.now nw = ev := ⟨_, rfl⟩
 rw [hev] at GO
 go_enter Tryz.func106, Tryz.ntmps106
 go_wp2_with (go_at_call 124; (with_reducible refine GV.out.mono ?_); rintro e w8 ⟨rfl, rfl⟩)
 refine GO.out.mono ?_
 rintro e w1 ⟨B, q, S, rfl, hGo, hR, hBn, hW1, hcY⟩
 obtain ⟨h1, hc1⟩ := hput.out _ _ _ hW1 hcY
 have hz1 := hc1.size
 clear hput GO GV hcY c5
 cases hk : goOk s.now nw
 ·
  have he : ev = 15 := by rw [← hev]; unfold goE; rw [hk]; rfl
  have x1 : (ev != 0) = true := by rw [he]; rfl
  obtain rfl := hGo.no hk
  replace hev := Lib.hid hev
  replace he := Lib.hid he
  replace hGo := Lib.hid hGo
  replace h1 := Lib.hid h1
  clear hR
  go_wp2_with fail
  go_ret2
  exact ⟨none, 0, [], by rw [hev.out]; rfl, hGo.out, OwnA.nil _ _, fun x hx => absurd hx (by simp), TabTo.of h1.out hc1⟩
 ·
  have he : ev = 0 := by rw [← hev]; unfold goE; rw [hk]; rfl
  have x1 : (ev != 0) = false := by rw [he]; rfl
  have hSn : ∀ x ∈ S, 0 ≤ x ∧ x < (n : Int) := fun x hx => hMn.out x (((hGo.mem hk) x).1 hx).1
  have hSl : S.length ≤ n := nodup_len n S hGo.nd hSn
  have hSd := hGo.nd
  obtain ⟨s1, hs1⟩ : ∃ s1 : TSt, s1 = { s with now := goN s.now nw, M := delAll s.M S } := ⟨_, rfl⟩
  rw [← hs1] at h1
  have hE1 : s1.E = s.E := by rw [hs1]
  replace hs1 := Lib.hid hs1
  replace hev := Lib.hid hev
  replace he := Lib.hid he
  replace hGo := Lib.hid hGo
  replace h1 := Lib.hid h1
  replace hSn := Lib.hid hSn
  replace hSd := Lib.hid hSd
  go_wp2_with fail
  go_loopw [8, 28] (fun ov kv wr => ∃ (j : Nat) (A : Option Addr) (a : Nat) (Xj : Nat → Prop), j ≤ S.length ∧ kv = .int .i64 (j : Nat) ∧ ov = .slice A j a ∧ OwnE wr w1.heap.size A a (goEnts s (S.take j)) ∧ TabP wr g sb n c (goAll n s1 (S.take j)) Xj ∧ (∀ b, InB A b → ¬ Xj b) ∧ (∀ b, Xj b → X b ∨ w1.heap.size ≤ b) ∧ Chg X w1 wr) (fun _ kv _ => S.length - (intOf kv).toNat)
  case atStart => exact ⟨0, none, 0, X, by omega, rfl, rfl, OwnA.nil _ _, h1.out, fun b hb => absurd hb inB_none, fun b hb => .inl hb, Chg.refl _ _⟩
  case round =>
   obtain ⟨j, A, a, Xj, hj, rfl, rfl, hO, hT, hAX, hXj, hc⟩ := hrel
   have hRj := hR.chg hc (fun ad e hx => by have h5 := hBn _ ⟨ad, e, rfl⟩; have h6 := hXlt.out _ hx; omega)
   have hzr := hc.size
   by_cases hlt : j < S.length
   ·
    have hlti : (j : Int) < (S.length : Int) := by omega
    obtain ⟨ad, rfl, hbl, cS⟩ := hRj.int_at hlt
    rw [show S.getD j 0 = S[j] by simp [hlt]] at cS
    have hm := hSn.out S[j] (List.getElem_mem hlt)
    obtain ⟨m, hme⟩ : ∃ m : Nat, S[j] = (m : Int) := ⟨S[j].toNat, by omega⟩
    rw [hme] at cS hm
    have hmn : m < n := by omega
    have x2 : (m : Int) < (n : Int) := hm.2
    have hgt := goAll_take n s1 hlt
    rw [hme, Int.toNat_natCast] at hgt
    have hent : goEnts s (S.take (j + 1)) = goEnts s (S.take j) ++ [s.E m] := by
     unfold goEnts
     rw [List.take_succ_eq_append_getElem hlt, List.map_append, hme]
     rfl
    have hEm : (goAll n s1 (S.take j)).E m = s.E m := by
     rw [goAll_E _ _ _ fun x hx e => ?_, hE1]
     obtain ⟨i, hi, e2⟩ := List.getElem_of_mem hx
     rw [List.length_take] at hi
     rw [List.getElem_take] at e2
     have h5 : S[i] ≠ S[j] := (List.pairwise_iff_getElem.1 (List.nodup_iff_pairwise_ne.1 hSd.out)) i j (by omega) hlt (by omega)
     have h6 := hSn.out S[i] (List.getElem_mem (by omega))
     rw [← e2] at e
     omega
    have c6 := hT.cells.1
    have GS := tab_goes2 hT m hmn (goAll_sl _ _ (fun k hk => by rw [hE1]; exact hsl.out k hk) m hmn)
    rw [hEm] at GS
    replace GS := Lib.hid GS
    have hlen : (goEnts s (S.take j)).length = j := by unfold goEnts; simp; omega
    generalize goEnts s (S.take j) = out at *
    generalize s.E m = x at *
    replace hgt := Lib.hid hgt
    replace hent := Lib.hid hent
    replace hEm := Lib.hid hEm
    replace hme := Lib.hid hme
    replace hO := Lib.hid hO
    replace hT := Lib.hid hT
    clear hRj
    go_wp2_with (first
     | (go_at_call 126; (with_reducible refine GS.out.mono ?_); rintro e w3 ⟨rfl, X3, hT3, hc3, hX3⟩; have hz3 := hc3.size; have hO3 := hO.out.chg hc3 hAX)
     | (at_builtin; refine wpList_push_ent rfl (.tmp 32) (.tmp 41) rfl w1.heap.size A a out x j hlen rfl hO3 _ rfl rfl rfl (by omega) (by omega) ?_; intro A4 a4 w4 hO4 hp4))
    have hA3 : ∀ b, InB A b → ¬ X3 b := fun b hb hx => by
     rcases hX3 b hx with h5 | h5
     · exact hAX b hb h5
     ·
      have := (hO.out.block hb).2
      omega
    have hT4 := hT3.chg hp4.chg (fun b hx hb => hA3 b hb hx)
    have hA4 : ∀ b, InB A4 b → ¬ X3 b := fun b hb hx => by
     rcases hp4.new b hb with h5 | h5
     · exact hA3 b h5 hx
     ·
      have := hT3.lt hx
      omega
    have hX4 : ∀ b, X3 b → X b ∨ w1.heap.size ≤ b := fun b hx => by
     rcases hX3 b hx with h5 | h5
     · exact hXj b h5
     · exact .inr (by omega)
    have hc4 : Chg X w1 w4 := (hc.trans (G := Xj) hc3 (fun b hb hx => (hXj b hx).elim id fun h => absurd h (by omega))).trans (G := InB A) hp4.chg (fun b hb hx => absurd (hO.out.block hx).1 (by omega))
    replace hT4 := Lib.hid hT4
    replace hA4 := Lib.hid hA4
    replace hX4 := Lib.hid hX4
    replace hc4 := Lib.hid hc4
    replace hO4 := Lib.hid hO4
    clear hT3 hc3 hX3 hA3 hp4 hO3 GS hT hO hAX hXj hc c6 cS
    go_wp2_with fail
    go_roundw
    case rel => exact ⟨j + 1, A4, a4, X3, by omega, by go_num, rfl, by rw [hent.out]; exact hO4.out, by rw [hgt.out]; exact hT4.out, hA4.out, hX4.out, hc4.out⟩
    case measure => simp [intOf]; omega
   ·
    obtain rfl : j = S.length := by omega
    have hlti : ¬ (S.length : Int) < (S.length : Int) := by omega
    rw [List.take_length] at hO hT
    have hTT : TabTo w wr g sb n c (goAll n s1 S) X := ⟨Xj, hT, hc1.trans (G := X) hc (fun _ _ h => h), fun b hx => (hXj b hx).imp id (fun h => Nat.le_trans hz1 h)⟩
    have hEl : (goEnts s S).length = S.length := by unfold goEnts; simp
    have hO5 : OwnE wr w.heap.size A a (goEnts s S) := OwnA.low hO hz1
    replace hTT := Lib.hid hTT
    replace hO5 := Lib.hid hO5
    clear hRj hO hT hc hXj hAX
    go_wp2_with fail
    go_ret2
    refine ⟨A, a, S, by rw [hev.out, he.out]; rfl, hGo.out, hO5.out, hSn.out, ?_⟩
    have h5 := hTT.out
    rw [hs1.out] at h5
    exact h5
end
theorem info_pslot : (Tryz.prog.info? 228).map (fun i => (i.zero, i.size, i.bytes)) = some (some (.pointer none), 1, 8) := by kernel_rfl
abbrev pcell (sb : Nat) (k : Nat) : List Value := [.pointer (some ⟨sb, k * 15, none⟩)]
abbrev OwnP (w : World) (base sb : Nat) (A : Option Addr) (c : Nat) (l : List Nat) : Prop := OwnA (pcell sb) 1 228 w base A c l
theorem wpList_push_pslot {W : World} {sb : Nat} {cs : Array Value} {ops : Array Oper} {rest : List Oper} {o : Oper} {a : Act} {Q : Exit → Act → World → Prop} (hgd : o.guard = none) (s x : Operand)
  (ho : o.op = .call { callee := .builtin .append, args := #[s, x], argTypes := #[229, 229] })
  (base : Nat) (A : Option Addr) (c : Nat) (l : List Nat) (v : Nat) (n : Nat) (hn : l.length = n) (hs : a.eval s = .slice A n c) (hown : OwnP W base sb A c l) (g : Nat) (hg : g = W.heap.size) (hcs : (pcell sb v).toArray = cs)
  (hx : a.eval x = .slice (some ⟨g, 0, none⟩) 1 1) (hl : l.length ≤ 1000000) (hbase : base ≤ W.heap.size)
  (h : ∀ A' c' w', OwnP w' base sb A' c' (l ++ [v]) → Pushed W w' A A' → wpList Tryz.prog ops Q rest (a.put o.dst (.slice A' (n + 1) c')) w') : wpList Tryz.prog ops Q (o :: rest) a (W.alloc (.cells cs 228)) := by
 obtain ⟨i0, hi0, hz0, hz1, hz2⟩ := info_parts info_pslot
 exact wpList_push (pcell sb) 1 (fun _ => rfl) (fun b u hu => by
  simp at hu; subst hu; rfl) (by omega) 229 i0 _ 8 Tryz.underlying229 hi0 hz0 hz1 hz2 rfl (by omega) hgd s x ho base A c l v n hn hs hown g hg hcs hx hl hbase h
def allL (E : Nat → Slt) (P : Slt → Bool) (n : Nat) : List Nat := (List.range n).filter fun k => (E k).used && P (E k)
theorem allL_succ (E : Nat → Slt) (P : Slt → Bool) (k : Nat) : allL E P (k + 1) = if ((E k).used && P (E k)) = true then allL E P k ++ [k] else allL E P k := by
 unfold allL
 rw [List.range_succ, List.filter_append]
 split
 · next h => simp only [List.filter_cons, List.filter_nil, h, if_true]
 · next h => simp only [List.filter_cons, List.filter_nil, h, if_false, List.append_nil, Bool.false_eq_true]
theorem allL_len (E : Nat → Slt) (P : Slt → Bool) (n : Nat) : (allL E P n).length ≤ n := by
 have := List.length_filter_le (fun k => (E k).used && P (E k)) (List.range n)
 unfold allL
 simpa using this
theorem live1 (x : Slt) (w : World) : Calls Tryz.prog 128 #[x.val] w fun e w' => e = .returned (.bool true) ∧ Below w.heap.size w w' := by
 go_enter Tryz.func128, Tryz.ntmps128
 go_wp2_with fail
 go_ret
 exact ⟨rfl, below_alloc (Below.refl _ _) _⟩
section
variable {w w1 w2 w3 : World} {g sb n r : Nat} {c : TCfg} {s s' : TSt} {X F : Nat → Prop}
set_option maxRecDepth 100000 in
set_option maxHeartbeats 4000000 in
theorem tab_all_live (h : TabP w g sb n c s X) :
  Calls Tryz.prog 127 #[.pointer (some ⟨g, 0, none⟩), .func (.func 128) #[] #[]] w fun e w' => ∃ (A : Option Addr) (q : Nat), e = .returned (.slice A (allL s.E (fun _ => true) n).length q) ∧ OwnP w' w.heap.size sb A q (allL s.E (fun _ => true) n) ∧ Below w.heap.size w w' := by
 obtain ⟨r1, r2, hn⟩ := h.rng
 have GV := Lib.hid (tab_given h)
 have c6 := h.cells.1
 replace h := Lib.hid h
 go_enter Tryz.func127, Tryz.ntmps127
 go_wp2_with (go_at_call 124; (with_reducible refine GV.out.mono ?_); rintro e w8 ⟨rfl, rfl⟩)
 go_loopw [5, 16] (fun ov kv wr => ∃ (k : Nat) (A : Option Addr) (a : Nat), k ≤ n ∧ kv = .int .i64 (k : Nat) ∧ ov = .slice A (allL s.E (fun _ => true) k).length a ∧ OwnP wr w.heap.size sb A a (allL s.E (fun _ => true) k) ∧ Below w.heap.size w wr) (fun _ kv _ => n - (intOf kv).toNat)
 case atStart => exact ⟨0, none, 0, by omega, rfl, rfl, OwnA.nil _ _, Below.refl _ _⟩
 case round =>
  obtain ⟨k, A, a, hk, rfl, rfl, hO, hb⟩ := hrel
  by_cases hlt : k < n
  ·
   have hlti : (k : Int) < (n : Int) := by omega
   have hT := h.out.call hb
   have d6 := hT.cells.1
   have hC := fun j hj => hT.slot hlt j hj
   have hsu := allL_succ s.E (fun _ => true) k
   rw [Bool.and_true] at hsu
   have hll := allL_len s.E (fun _ => true) k
   generalize allL s.E (fun _ => true) k = L at *
   generalize s.E k = x at *
   have c0 : wr.cell? ⟨sb, k * 15, none⟩ = some (.int .i64 x.t.p) := hC 0 (by omega)
   have c1 : wr.cell? ⟨sb, k * 15 + 1, none⟩ = some (.bool x.t.v) := hC 1 (by omega)
   have c2 : wr.cell? ⟨sb, k * 15 + 2, none⟩ = some (.int .u64 x.t.hi) := hC 2 (by omega)
   have c3 : wr.cell? ⟨sb, k * 15 + 3, none⟩ = some (.int .u64 x.t.lo) := hC 3 (by omega)
   have c4 : wr.cell? ⟨sb, k * 15 + 4, none⟩ = some (.bool x.t.v') := hC 4 (by omega)
   have c5 : wr.cell? ⟨sb, k * 15 + 5, none⟩ = some (.int .u64 x.t.hi') := hC 5 (by omega)
   have c6 : wr.cell? ⟨sb, k * 15 + 6, none⟩ = some (.int .u64 x.t.lo') := hC 6 (by omega)
   have c7 : wr.cell? ⟨sb, k * 15 + 7, none⟩ = some (.int .i64 x.t.sp) := hC 7 (by omega)
   have c8 : wr.cell? ⟨sb, k * 15 + 8, none⟩ = some (.int .i64 x.t.dp) := hC 8 (by omega)
   have c9 : wr.cell? ⟨sb, k * 15 + 9, none⟩ = some (.int .i64 x.bk) := hC 9 (by omega)
   have c10 : wr.cell? ⟨sb, k * 15 + 10, none⟩ = some (.int .i64 x.st) := hC 10 (by omega)
   have c11 : wr.cell? ⟨sb, k * 15 + 11, none⟩ = some (.int .i64 x.sl) := hC 11 (by omega)
   have c12 : wr.cell? ⟨sb, k * 15 + 12, none⟩ = some (.int .u64 x.gen) := hC 12 (by omega)
   have c13 : wr.cell? ⟨sb, k * 15 + 13, none⟩ = some (.int .i64 x.due) := hC 13 (by omega)
   have c14 : wr.cell? ⟨sb, k * 15 + 14, none⟩ = some (.bool x.used) := hC 14 (by omega)
   have hz := hb.size
   replace hsu := Lib.hid hsu
   clear hC hT
   cases hu : x.used
   ·
    rw [hu] at hsu c14
    go_wp2_with fail
    go_roundw
    case rel => exact ⟨k + 1, A, a, by omega, by go_num, by rw [hsu.out]; rfl, by rw [hsu.out]; exact hO, hb⟩
    case measure => simp [intOf]; omega
   ·
    rw [hu] at hsu c14
    replace hO := Lib.hid hO
    have LV := Lib.hid (live1 x wr)
    go_wp2_with (first
     | (go_at_call 128; (with_reducible refine LV.out.mono ?_); rintro e w3 ⟨rfl, hb3⟩; have hz3 := hb3.size; have hb4 := below_chain hb3 hb; have hO3 := hO.out.call hb3)
     | (at_builtin; refine wpList_push_pslot rfl (.tmp 37) (.tmp 39) rfl w.heap.size A a L k L.length rfl rfl hO3 _ rfl rfl rfl (by omega) (by omega) ?_; intro A4 a4 w4 hO4 hp4))
    have hb5 : Below w.heap.size w w4 := hp4.below hb4 (by omega) (fun b hb => (hO3.block hb).1)
    go_roundw
    case rel => exact ⟨k + 1, A4, a4, by omega, by go_num, by rw [hsu.out, if_pos trivial, List.length_append]; rfl, by rw [hsu.out, if_pos trivial]; exact hO4, hb5⟩
    case measure => simp [intOf]; omega
  ·
   obtain rfl : k = n := by omega
   have hlti : ¬ (k : Int) < (k : Int) := by omega
   go_wp2_with fail
   go_ret
   exact ⟨A, a, rfl, hO, hb⟩
def entsOf (E : Nat → Slt) (L : List Nat) : List Slt := L.map E
theorem allL_lt {E : Nat → Slt} {P : Slt → Bool} {n k : Nat} (h : k ∈ allL E P n) : k < n := by
 unfold allL at h
 exact List.mem_range.1 (List.mem_filter.1 h).1
theorem pcell_map (sb : Nat) (l : List Nat) : l.flatMap (pcell sb) = l.map fun k => Value.pointer (some ⟨sb, k * 15, none⟩) := by induction l <;> simp_all
theorem pslot_at {base q : Nat} {A : Option Addr} {L : List Nat} (h : OwnP w base sb A q L) {j : Nat} (hj : j < L.length) : ∃ ad, A = some ad ∧ ad.block < w.heap.size ∧ w.cell? (ad.add j) = some (.pointer (some ⟨sb, L[j] * 15, none⟩)) := by
 have hr := h.reads
 rw [pcell_map] at hr
 obtain ⟨ad, u, h1, h2, h3, h4⟩ := hr.at_ hj
 rw [List.getElem?_map, List.getElem?_eq_getElem hj] at h3
 cases h3
 exact ⟨ad, h1, h2, h4⟩
set_option maxRecDepth 100000 in
set_option maxHeartbeats 4000000 in
theorem tab_live (h : TabP w g sb n c s X) :
  Calls Tryz.prog 108 #[.pointer (some ⟨g, 0, none⟩)] w fun e w' => ∃ (A : Option Addr) (q : Nat), e = .returned (.slice A (entsOf s.E (allL s.E (fun _ => true) n)).length q) ∧ OwnE w' w.heap.size A q (entsOf s.E (allL s.E (fun _ => true) n)) ∧ Below w.heap.size w w' := by
 obtain ⟨r1, r2, hn⟩ := h.rng
 have AL := Lib.hid (tab_all_live h)
 have hlt := fun j (hj : j ∈ allL s.E (fun _ => true) n) => allL_lt hj
 have hll := allL_len s.E (fun _ => true) n
 generalize allL s.E (fun _ => true) n = L at *
 replace h := Lib.hid h
 replace hlt := Lib.hid hlt
 go_enter Tryz.func108, Tryz.ntmps108
 go_wp2_with fail
 refine AL.out.mono ?_
 rintro e w1 ⟨B, q, rfl, hP, hb1⟩
 have hz1 := hb1.size
 replace hP := Lib.hid hP
 clear AL
 go_wp2_with fail
 go_loopw [3, 9] (fun ov kv wr => ∃ (k : Nat) (A : Option Addr) (a : Nat), k ≤ L.length ∧ kv = .int .i64 (k : Nat) ∧ ov = .slice A k a ∧ OwnE wr w1.heap.size A a (entsOf s.E (L.take k)) ∧ Below w1.heap.size w1 wr) (fun _ kv _ => L.length - (intOf kv).toNat)
 case atStart => exact ⟨0, none, 0, by omega, rfl, rfl, OwnA.nil _ _, Below.refl _ _⟩
 case round =>
  obtain ⟨k, A, a, hk, rfl, rfl, hO, hb⟩ := hrel
  by_cases hk2 : k < L.length
  ·
   have hki : (k : Int) < (L.length : Int) := by omega
   obtain ⟨ad, rfl, hbl, cP⟩ := pslot_at (hP.out.call hb) hk2
   have hent : entsOf s.E (L.take (k + 1)) = entsOf s.E (L.take k) ++ [s.E L[k]] := by
    unfold entsOf
    rw [List.take_succ_eq_append_getElem hk2, List.map_append]
    rfl
   have hel : (entsOf s.E (L.take k)).length = k := by unfold entsOf; simp; omega
   have hm := hlt.out _ (List.getElem_mem hk2)
   obtain ⟨m, hme⟩ : ∃ m, L[k] = m := ⟨_, rfl⟩
   rw [hme] at cP hent hm
   have hT := h.out.call (below_chain hb hb1)
   have hC := fun j hj => hT.slot hm j hj
   generalize entsOf s.E (L.take k) = out at *
   generalize s.E m = x at *
   have c0 : wr.cell? ⟨sb, m * 15, none⟩ = some (.int .i64 x.t.p) := hC 0 (by omega)
   have c1 : wr.cell? ⟨sb, m * 15 + 1, none⟩ = some (.bool x.t.v) := hC 1 (by omega)
   have c2 : wr.cell? ⟨sb, m * 15 + 2, none⟩ = some (.int .u64 x.t.hi) := hC 2 (by omega)
   have c3 : wr.cell? ⟨sb, m * 15 + 3, none⟩ = some (.int .u64 x.t.lo) := hC 3 (by omega)
   have c4 : wr.cell? ⟨sb, m * 15 + 4, none⟩ = some (.bool x.t.v') := hC 4 (by omega)
   have c5 : wr.cell? ⟨sb, m * 15 + 5, none⟩ = some (.int .u64 x.t.hi') := hC 5 (by omega)
   have c6 : wr.cell? ⟨sb, m * 15 + 6, none⟩ = some (.int .u64 x.t.lo') := hC 6 (by omega)
   have c7 : wr.cell? ⟨sb, m * 15 + 7, none⟩ = some (.int .i64 x.t.sp) := hC 7 (by omega)
   have c8 : wr.cell? ⟨sb, m * 15 + 8, none⟩ = some (.int .i64 x.t.dp) := hC 8 (by omega)
   have c9 : wr.cell? ⟨sb, m * 15 + 9, none⟩ = some (.int .i64 x.bk) := hC 9 (by omega)
   have c10 : wr.cell? ⟨sb, m * 15 + 10, none⟩ = some (.int .i64 x.st) := hC 10 (by omega)
   have c11 : wr.cell? ⟨sb, m * 15 + 11, none⟩ = some (.int .i64 x.sl) := hC 11 (by omega)
   have c12 : wr.cell? ⟨sb, m * 15 + 12, none⟩ = some (.int .u64 x.gen) := hC 12 (by omega)
   have c13 : wr.cell? ⟨sb, m * 15 + 13, none⟩ = some (.int .i64 x.due) := hC 13 (by omega)
   have hz := hb.size
   replace hent := Lib.hid hent
   replace hme := Lib.hid hme
   replace hO := Lib.hid hO
   clear hC hT
   go_wp2_with (at_builtin; refine wpList_push_ent rfl (.tmp 13) (.tmp 18) rfl w1.heap.size A a out x k hel rfl hO.out _ rfl rfl rfl (by omega) (by omega) ?_; intro A4 a4 w4 hO4 hp4)
   have hb5 : Below w1.heap.size w1 w4 := hp4.below hb (by omega) (fun b hb => (hO.out.block hb).1)
   go_roundw
   case rel => exact ⟨k + 1, A4, a4, by omega, by go_num, rfl, by rw [hent.out]; exact hO4, hb5⟩
   case measure => simp [intOf]; omega
  ·
   obtain rfl : k = L.length := by omega
   have hki : ¬ (L.length : Int) < (L.length : Int) := by omega
   rw [List.take_length] at hO
   have hel : (entsOf s.E L).length = L.length := by unfold entsOf; simp
   replace hO := Lib.hid hO
   go_wp2_with fail
   go_ret
   exact ⟨A, a, rfl, hO.out.low hz1, below_chain hb hb1⟩
end
section
variable {w w1 w2 w3 : World} {g sb n r : Nat} {c : TCfg} {s s' : TSt} {X F : Nat → Prop}
def dropS (n : Nat) (s : TSt) (L : List Nat) : TSt := L.foldl (fun s k => goS n s k) s
theorem goS_sl {n : Nat} {s : TSt} {x : Nat} (h : ∀ k : Nat, k < n → (s.E k).sl = k) : ∀ k : Nat, k < n → ((goS n s x).E k).sl = k := fun k hk => by
 show (updE s.E x (clrS (s.E x)) k).sl = k
 unfold updE
 split
 ·
  next e =>
  subst e
  exact h _ hk
 · exact h k hk
theorem allL_nodup (E : Nat → Slt) (P : Slt → Bool) (n : Nat) : (allL E P n).Nodup := by
 unfold allL
 exact List.Pairwise.filter _ List.nodup_range
end
theorem slots_made (w : World) (n : Nat) : Slots (w.alloc (.cells (madeCells slt0.cells.toArray (n * 15)) 223)) w.heap.size n (fun _ => slt0) := by
 refine ⟨_, Blk.new w _ _, size_madeCells _ _, fun i hi j hj => ?_⟩
 have hlt : i * 15 + j < n * 15 := by omega
 unfold madeCells
 rw [Array.getElem?_map, Array.getElem?_range, if_pos hlt]
 have hz : slt0.cells.toArray.size = 15 := rfl
 have hm : (i * 15 + j) % 15 = j := by omega
 simp only [Option.map_some, hz, hm]
 rw [List.getElem?_eq_getElem (by simpa using hj)]
 congr 1
 rw [getElem!_pos _ _ (by simpa using hj)]
 rfl
theorem info_slot : (Tryz.prog.info? 223).map (fun i => (i.zero, i.size, i.bytes)) = some (some (.agg slt0.cells.toArray), 15, 120) := by kernel_rfl
theorem tab_put {w : World} {sb fs wg n : Nat} {E : Nat → Slt} {L : List Int} {M : LM} {G now : Int} {F Y : Nat → Prop} (a1 a2 a3 a4 lk : Int) (hs : Slots w sb n E) (hp : StackP w fs n L F) (hw : WheelP w wg G now M Y) (d : ∀ b, F b → ¬ Y b) (d2 : ∀ b, F b ∨ Y b → b ≠ sb) (hn : n ≤ 4096) :
  TabP (w.alloc (.cells #[.int .i64 a1, .int .i64 a2, .int .i64 a3, .int .i64 a4, .pointer (some ⟨fs, 0, none⟩), .pointer (some ⟨wg, 0, none⟩), .slice (some ⟨sb, 0, none⟩) n n, .int .i64 lk] 221)) w.heap.size sb n ⟨a1, a2, a3, a4, G⟩ ⟨now, M, L, E, lk⟩ (fun b => b = w.heap.size ∨ b = sb ∨ F b ∨ Y b) := by
 have k : Chg (fun _ => False) w (w.alloc (.cells #[.int .i64 a1, .int .i64 a2, .int .i64 a3, .int .i64 a4, .pointer (some ⟨fs, 0, none⟩), .pointer (some ⟨wg, 0, none⟩), .slice (some ⟨sb, 0, none⟩) n n, .int .i64 lk] 221)) := Chg.of_below (below_alloc (Below.refl _ _) _)
 have hsl := hs.lt
 refine ⟨fs, wg, F, Y, Blk.new w _ _, hp.chg k fun _ _ h => h, hw.chg k fun _ _ h => h, hs.chg k fun h => h, fun b => Iff.rfl, d, fun b hb => ⟨fun e => ?_, d2 b hb⟩, by omega, hn⟩
 rcases hb with hb | hb
 ·
  have := hp.lt hb
  omega
 ·
  have := hw.lt hb
  omega
def numE (k : Nat) : Nat → Slt := fun i => if i < k then { slt0 with sl := i } else slt0
theorem numE_succ (k : Nat) : updE (numE k) k { slt0 with sl := k } = numE (k + 1) := by
 funext i
 unfold updE numE
 by_cases e : i = k
 ·
  subst e
  rw [if_pos rfl, if_pos (by omega)]
 ·
  rw [if_neg e]
  by_cases h : i < k
  · rw [if_pos h, if_pos (by omega)]
  · rw [if_neg h, if_neg (by omega)]
theorem numE_self (k : Nat) : numE k k = slt0 := if_neg (by omega)
theorem Slots.congr {w : World} {sb n : Nat} {E E' : Nat → Slt} (h : Slots w sb n E) (he : ∀ i, i < n → E' i = E i) : Slots w sb n E' := by
 obtain ⟨Z, h1, h2, h3⟩ := h
 exact ⟨Z, h1, h2, fun i hi j hj => by rw [he i hi]; exact h3 i hi j hj⟩
theorem TabP.congr {w : World} {g sb n : Nat} {c : TCfg} {s : TSt} {X : Nat → Prop} (h : TabP w g sb n c s X) {E' : Nat → Slt} (he : ∀ i, i < n → E' i = s.E i) : TabP w g sb n c { s with E := E' } X := by
 obtain ⟨fs, wg, F', Y, h1, h2, h3, h4, h5⟩ := h
 exact ⟨fs, wg, F', Y, h1, h2, h3, h4.congr he, h5⟩
set_option maxRecDepth 100000 in
set_option maxHeartbeats 4000000 in
theorem tab_new (b : Nat) (hb : b ≤ 12) (a1 a2 a3 a4 : Int) (hr : rightS a1 a2 a3 a4 = true) (G : Int) (hG : 1 ≤ G ∧ G ≤ 1024) (w : World) :
  Calls Tryz.prog 103 #[.int .i64 b, .agg #[.int .i64 a1, .int .i64 a2, .int .i64 a3, .int .i64 a4], .int .i64 G] w fun e w' => ∃ g sb X, e = .returned (.tuple #[.pointer (some ⟨g, 0, none⟩), .int .i64 0]) ∧ TabP w' g sb (2 ^ b) ⟨a1, a2, a3, a4, G⟩ ⟨0, [], upto (2 ^ b) 0, fun k => { slt0 with sl := k }, 0⟩ X ∧ Below w.heap.size w w' ∧ ∀ b, X b → w.heap.size ≤ b := by
 obtain ⟨n, hn⟩ : ∃ n, 2 ^ b = n := ⟨_, rfl⟩
 have hn2 : n ≤ 4096 := by rw [← hn]; exact Nat.le_trans (Nat.pow_le_pow_right (by omega) hb) (by decide)
 have hsh : IntKind.i64.wrap (2 ^ b) = (n : Int) := by
  have e : ((2 : Int) ^ b) = (n : Int) := by rw [← hn]; simp
  rw [e]
  simp [IntKind.wrap, IntKind.bits, IntKind.signed]
  omega
 rw [hn]
 have x1 : ¬ 12 < b := by omega
 have WN := Lib.hid fun W => wheelp_new G W hG
 have RT := Lib.hid fun W => right_any a1 a2 a3 a4 W
 rw [hr] at RT
 replace hn := Lib.hid hn
 go_enter Tryz.func103, Tryz.ntmps103
 go_upto_region 1 with fail
 have R0 := Blk.new w 30 #[.int .i64 a1, .int .i64 a2, .int .i64 a3, .int .i64 a4]
 have hb0 : Below w.heap.size w (w.alloc (.cells #[.int .i64 a1, .int .i64 a2, .int .i64 a3, .int .i64 a4] 30)) := below_alloc (Below.refl _ _) _
 generalize w.alloc (.cells #[.int .i64 a1, .int .i64 a2, .int .i64 a3, .int .i64 a4] 30) = w0 at *
 have hr0 : w.heap.size ≤ w.heap.size := Nat.le_refl _
 obtain ⟨r, hrr⟩ : ∃ r, w.heap.size = r := ⟨_, rfl⟩
 rw [hrr] at R0
 try rw [hrr]
 go_wp2_with fail
 refine (WN.out _).mono ?_
 rintro e w1 ⟨wg, Y, rfl, hW, hb1, hY⟩
 have R1 := R0.call hb1
 have c0 := R1.cell 0
 have c1 := R1.cell 1
 have c2 := R1.cell 2
 have c3 := R1.cell 3
 simp at c0 c1 c2 c3
 have x2 : decide (12 < b) = false := by simp; omega
 go_upto_region 4 with (go_at_call 98; (with_reducible refine (RT.out _).mono ?_); rintro e w2 ⟨rfl, hb2⟩)
 obtain ⟨i0, hi0, hz0, hz1, hz2⟩ := info_parts info_slot
 have hmk : ∀ W : World, (Instr.makeSlice 219 (.int .i64 (n : Int)) (.int .i64 (n : Int))).run Tryz.prog W = .ok (.slice (some ⟨W.heap.size, 0, none⟩) n n) (W.alloc (.cells (madeCells slt0.cells.toArray (n * 15)) 223)) := fun W => by
  have := run_make (P := Tryz.prog) W 219 223 i0 _ Tryz.underlying219 hi0 hz0 .i64 .i64 n n (by omega) (by omega) (by rw [hz2]; omega) (by omega)
  rw [hz1] at this
  exact this
 have SN := Lib.hid fun W => new_yes n W hn2
 have d0 := (hb2.cell (block_lt_of_cell c0)).trans c0
 have d1 := (hb2.cell (block_lt_of_cell c1)).trans c1
 have d2 := (hb2.cell (block_lt_of_cell c2)).trans c2
 have d3 := (hb2.cell (block_lt_of_cell c3)).trans c3
 clear c0 c1 c2 c3 R0 hi0 hz0 hz1 hz2
 have HA := Lib.hid fun (W : World) (o : Obj) (h : Below w2.heap.size w2 W ∧ W.cell? ⟨r, 0, none⟩ = some (.int .i64 a1) ∧ W.cell? ⟨r, 1, none⟩ = some (.int .i64 a2) ∧ W.cell? ⟨r, 2, none⟩ = some (.int .i64 a3) ∧ W.cell? ⟨r, 3, none⟩ = some (.int .i64 a4)) => hold4 h (below_alloc (Below.refl W.heap.size W) o)
 have W2 := Lib.hid fun W (h : Below w2.heap.size w2 W) => (hW.chg (F := fun _ => False) (Chg.of_below hb2) (fun _ _ h => h)).chg (F := fun _ => False) (Chg.of_below h) (fun _ _ h => h)
 have hYl : ∀ b, Y b → w0.heap.size ≤ b ∧ b < w2.heap.size := fun b hb => by have := hW.lt hb; have := hY b hb; have := hb2.size; omega
 have hb02 : Below w.heap.size w w2 := below_chain hb2 (below_chain hb1 hb0)
 replace hYl := Lib.hid hYl
 replace hb02 := Lib.hid hb02
 have hz2 := hb02.out.size
 have hz0 := hb0.size
 clear hW hY R1 hb0 hb1 hb2
 go_region_held3 (fun W => Below w2.heap.size w2 W ∧ W.cell? ⟨r, 0, none⟩ = some (.int .i64 a1) ∧ W.cell? ⟨r, 1, none⟩ = some (.int .i64 a2) ∧ W.cell? ⟨r, 2, none⟩ = some (.int .i64 a3) ∧ W.cell? ⟨r, 3, none⟩ = some (.int .i64 a4)) (first | ((first | assumption | ((refine ⟨?_, ?_⟩; (first | assumption | exact (Below.refl _ _).drew | exact Below.refl _ _); go_keep)))) | exact HA.out _ _ (by assumption)) (first
  | (go_at_call 122; (with_reducible refine (SN.out _).mono ?_); rintro e w3 ⟨fs, F3, rfl, hP3, hb3, hF3⟩; have hS3 := hold4 (by assumption) hb3))
 all_goals have hYl2 := hYl.out
 case' refine_2.refine_3.refine_3.refine_3.refine_3.refine_3.refine_3.refine_1.refine_2.refine_1.refine_2.refine_3.refine_1.refine_2.refine_3 =>
  have hF3 : ∀ b, F3 b → w2.heap.size ≤ b := hF3
  have hba := below_alloc (Below.refl w3.heap.size w3) (.cells (madeCells slt0.cells.toArray (n * 15)) 223)
  have hT := tab_put a1 a2 a3 a4 0 (slots_made w3 n) (hP3.chg (G := fun _ => False) (Chg.of_below hba) (fun _ _ h => h)) (W2.out _ (below_chain hba hS3.1)) (fun b hF hY => by have := hF3 b hF; have := hYl2 b hY; omega) (fun b hb => by
   have hz := hS3.1.size
   rcases hb with hb | hb
   ·
    have := hP3.lt hb
    omega
   ·
    have := hYl2 b hb
    omega) hn2
  rw [World.size_alloc] at hT
  have hbW : Below w.heap.size w _ := below_chain (below_alloc (Below.refl _ _) (.cells #[.int .i64 a1, .int .i64 a2, .int .i64 a3, .int .i64 a4, .pointer (some ⟨fs, 0, none⟩), .pointer (some ⟨wg, 0, none⟩), .slice (some ⟨w3.heap.size, 0, none⟩) n n, .int .i64 0] 221)) (below_chain hba (below_chain hS3.1 hb02.out))
  have hXn : ∀ b, (b = w3.heap.size + 1 ∨ b = w3.heap.size ∨ F3 b ∨ Y b) → w.heap.size ≤ b := fun b hb => by
   have hz := hS3.1.size
   rcases hb with hb | hb | hb | hb
   · omega
   · omega
   ·
    have := hF3 b hb
    omega
   ·
    have := hYl2 b hb
    omega
  generalize (w3.alloc (.cells (madeCells slt0.cells.toArray (n * 15)) 223)).alloc (.cells #[.int .i64 a1, .int .i64 a2, .int .i64 a3, .int .i64 a4, .pointer (some ⟨fs, 0, none⟩), .pointer (some ⟨wg, 0, none⟩), .slice (some ⟨w3.heap.size, 0, none⟩) n n, .int .i64 0] 221) = w4 at *
  generalize hX : (fun b => b = w3.heap.size + 1 ∨ b = w3.heap.size ∨ F3 b ∨ Y b) = X at *
  generalize hg : w3.heap.size + 1 = g at *
  generalize hsb : w3.heap.size = sb at *
 case' refine_2.refine_3.refine_3.refine_3.refine_3.refine_3.refine_3.refine_2.refine_1.refine_2.refine_1.refine_2.refine_3.refine_1.refine_2.refine_3 =>
  have hF3 : ∀ b, F3 b → (w2.alloc (.cells (madeCells slt0.cells.toArray (n * 15)) 223)).heap.size ≤ b := hF3
  rw [World.size_alloc] at hF3
  have hSl : Slots (w2.alloc (.cells (madeCells slt0.cells.toArray (n * 15)) 223)).drew w2.heap.size n (fun _ => slt0) := slots_made w2 n
  have hz3 : w2.heap.size + 1 ≤ w3.heap.size := by
   have h5 : (w2.alloc (.cells (madeCells slt0.cells.toArray (n * 15)) 223)).heap.size ≤ w3.heap.size := hb3.size
   rw [World.size_alloc] at h5
   exact h5
  have hT := tab_put a1 a2 a3 a4 0 (hSl.chg (F := fun _ => False) (Chg.of_below hb3) (fun h => h)) hP3 (W2.out _ hS3.1) (fun b hF hY => by have := hF3 b hF; have := hYl2 b hY; omega) (fun b hb => by
   rcases hb with hb | hb
   ·
    have := hF3 b hb
    omega
   ·
    have := hYl2 b hb
    omega) hn2
  have hbW : Below w.heap.size w _ := below_chain (below_alloc (Below.refl _ _) (.cells #[.int .i64 a1, .int .i64 a2, .int .i64 a3, .int .i64 a4, .pointer (some ⟨fs, 0, none⟩), .pointer (some ⟨wg, 0, none⟩), .slice (some ⟨w2.heap.size, 0, none⟩) n n, .int .i64 0] 221)) (below_chain hS3.1 hb02.out)
  have hXn : ∀ b, (b = w3.heap.size ∨ b = w2.heap.size ∨ F3 b ∨ Y b) → w.heap.size ≤ b := fun b hb => by
   rcases hb with hb | hb | hb | hb
   · omega
   · omega
   ·
    have := hF3 b hb
    omega
   ·
    have := hYl2 b hb
    omega
  generalize w3.alloc (.cells #[.int .i64 a1, .int .i64 a2, .int .i64 a3, .int .i64 a4, .pointer (some ⟨fs, 0, none⟩), .pointer (some ⟨wg, 0, none⟩), .slice (some ⟨w2.heap.size, 0, none⟩) n n, .int .i64 0] 221) = w4 at *
  generalize hX : (fun b => b = w3.heap.size ∨ b = w2.heap.size ∨ F3 b ∨ Y b) = X at *
  generalize hg : w3.heap.size = g at *
  generalize hsb : w2.heap.size = sb at *
 all_goals
  have hXn2 : ∀ b, X b → w.heap.size ≤ b := by rw [← hX]; exact hXn
  have c6 := hT.cells.1
  replace hXn2 := Lib.hid hXn2
  replace hbW := Lib.hid hbW
  replace hT := Lib.hid hT
  clear HA W2 SN RT WN hmk hXn hX hS3 hP3 hF3 hb3 d0 d1 d2 d3 hYl2
  go_wp2_with fail
  go_loopw [43] (fun kv wr => ∃ k : Nat, k ≤ n ∧ kv = .int .i64 (k : Nat) ∧ TabP wr g sb n ⟨a1, a2, a3, a4, G⟩ ⟨0, [], upto n 0, numE k, 0⟩ X ∧ Below w.heap.size w wr) (fun kv _ => n - (intOf kv).toNat)
  case atStart => exact ⟨0, by omega, rfl, hT.out, hbW.out⟩
  case round =>
   obtain ⟨k, hk, rfl, hA, hb⟩ := hrel
   by_cases hlt : k < n
   ·
    have hlti : (k : Int) < (n : Int) := by omega
    have d6 := hA.cells.1
    have f11 := hA.slotf (k * 15 + 11)
    have c11 := (hA.slot hlt 11 (by omega)).trans rfl
    simp [numE_self] at c11
    have h1 := hA.setE hlt 11 (by omega) (.int .i64 (k : Int)) { slt0 with sl := k } (by simp [numE_self, slt0])
    rw [numE_succ] at h1
    have h2 := hb.setCell (p := ⟨sb, k * 15 + 11, none⟩) (hXn2.out _ hA.sbX) (.int .i64 (k : Int))
    replace h1 := Lib.hid h1
    replace h2 := Lib.hid h2
    replace hA := Lib.hid hA
    replace hb := Lib.hid hb
    go_wp2_with fail
    go_roundw
    case rel => exact ⟨k + 1, by omega, by go_num, h1.out, h2.out⟩
    case measure => simp [intOf]; omega
   ·
    obtain rfl : k = n := by omega
    have hlti : ¬ (k : Int) < (k : Int) := by omega
    have h1 := hA.congr (E' := fun k => { slt0 with sl := k }) (fun i hi => by show _ = numE k i; unfold numE; rw [if_pos hi])
    replace h1 := Lib.hid h1
    replace hA := Lib.hid hA
    replace hb := Lib.hid hb
    go_wp2_with fail
    go_ret2
    first | exact ⟨g, sb, X, rfl, h1.out, hrr ▸ hb.out, hrr ▸ hXn2.out⟩ | exact ⟨g, rfl, sb, X, h1.out, hrr ▸ hb.out, hrr ▸ hXn2.out⟩
end Go.Proofs.YtohapcacckapoaaGreat
