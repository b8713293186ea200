/- wheel: numbers sorted by turn, then by number. -/
import Derived.Test.YtfpepgeaaadpdaaWheelH
import Derived.Shelf.SlSortCmp.NoneTotal
namespace Go.Proofs.Ytfpepgeaaadpdaa
open Go Go.RowKit Go.Deep Go.Maps Go.ChangeMaps

/-- A number comes ahead of another, or is it. -/
def leT (G : Int) (M : LM) (x y : Int) : Prop := turnI G (lmGet M x) < turnI G (lmGet M y) ∨ turnI G (lmGet M x) = turnI G (lmGet M y) ∧ x ≤ y
abbrev WB (M : LM) := {x : Int // lmHas M x = true}
def wbO (G : Int) (M : LM) (x y : WB M) : Int := ordT G M x.1 y.1
theorem wb_lt {G : Int} {M : LM} (x y : WB M) : ltOf (wbO G M) x y = true ↔ turnI G (lmGet M x.1) < turnI G (lmGet M y.1) ∨ turnI G (lmGet M x.1) = turnI G (lmGet M y.1) ∧ x.1 < y.1 := by
  unfold ltOf wbO ordT orI cmpI
  rw [decide_eq_true_iff]
  split <;> split <;> (try split) <;> (try split) <;> omega
theorem wb_not {G : Int} {M : LM} (x y : WB M) : ltOf (wbO G M) x y = false ↔ leT G M y.1 x.1 := by
  have := wb_lt (G := G) x y
  unfold leT
  cases h : ltOf (wbO G M) x y
  · rw [h] at this
    simp at this
    simp
    omega
  · rw [h] at this
    simp at this
    simp
    omega
theorem swoW (G : Int) (M : LM) : Sort.SWO (ltOf (wbO G M)) where
  irrefl x := by rw [wb_not]; unfold leT; omega
  trans x y z h1 h2 := by rw [wb_lt] at *; omega
  ntrans x y z h1 h2 := by rw [wb_not] at *; unfold leT at *; omega
theorem wb_list {M : LM} : ∀ (l : List Int), (∀ x ∈ l, lmHas M x = true) → ∃ ls : List (WB M), ls.map Subtype.val = l
  | [], _ => ⟨[], rfl⟩
  | x :: r, h => by
    obtain ⟨ls, e⟩ := wb_list r fun y hy => h y (List.mem_cons_of_mem _ hy)
    exact ⟨⟨x, h x (List.mem_cons_self ..)⟩ :: ls, by simp [e]⟩
section
variable {w w' : World} {base g bm : Nat} {G now : Int} {M : LM} {R : Nat → List Int} {A : Nat → Option Addr} {C : Nat → Nat} {T : Nat → Int} {Z : Array Value}
abbrev wcmpFn (gv : Nat) : Value := .func (Fn.func 25) #[] #[.pointer (some ⟨gv, 0, none⟩)]
theorem wsort (h : WhAt w base g bm G now M R A C T Z) (inv : RowInv M R T) (hG : 1 ≤ G ∧ G ≤ 1024) {gv gp cap b0 : Nat} (hv : w.cell? ⟨gv, 0, none⟩ = some (.pointer (some ⟨g, 0, none⟩))) {L : List Int} (hL : ∀ x ∈ L, lmHas M x = true) (hO : OwnI w b0 (some ⟨gp, 0, none⟩) cap L) (hp : ¬ whF g bm A gp) (hpv : gp ≠ gv) (h0 : 0 < L.length) (hl : L.length ≤ 1000000) :
    Calls Try.prog 24 #[.slice (some ⟨gp, 0, none⟩) L.length cap, wcmpFn gv] w fun e w' => e = .returned (.tuple #[]) ∧ ∃ S : List Int, S.Perm L ∧ S.Pairwise (leT G M) ∧ Reads w' w'.heap.size 1 (some ⟨gp, 0, none⟩) S.length (S.map (.int .i64)) ∧ Chg (· = gp) w w' := by
  obtain ⟨ls, hls⟩ := wb_list L hL
  have hlen : ls.length = L.length := by rw [← hls, List.length_map]
  have hne : ls ≠ [] := fun e => by rw [e] at hlen; simp at hlen; omega
  obtain ⟨x0, r0, hx0⟩ := List.exists_cons_of_ne_nil hne
  letI : Inhabited (WB M) := ⟨x0⟩
  have hgp : gp < w.heap.size := (hO.block ⟨_, rfl, rfl⟩).2
  rw [← hls] at hO
  have hH := own_holds1 hO
  have eg : ∀ args w, (callFunc 25 args).run Try.prog w = .ok (.enter 25 args) w := enters_of Try.func25 (by kernel_rfl) rfl
  have hsz0 : ls.toArray.size = L.length := by simp [hlen]
  have hcmp : CmpLays1 Try.prog 25 #[.pointer (some ⟨gv, 0, none⟩)] (encI (Subtype.val : WB M → Int)) (wbO G M) gp 0 ls.toArray.size w := by
    intro m os dk hdk x y
    have k := sortW_chg1 (enc := encI (Subtype.val : WB M → Int)) (w := w) (gp := gp) (n := m) (d := dk) (os := os)
    have h2 := h.chg k (fun b e hw => hp (e ▸ hw))
    have hv2 := (cell_chg k (block_lt_of_cell hv) (fun e => hpv e.symm)).trans hv
    have rx := inv.idr _ (lmGet_mem x.2)
    have ry := inv.idr _ (lmGet_mem y.2)
    refine (wcmp_dr h2 hG gv hv2 x.1 y.1 ⟨rx.1, rx.2.1, rx.2.2.1, rx.2.2.2⟩ ⟨ry.1, ry.2.1, ry.2.2.1, ry.2.2.2⟩).mono ?_
    rintro e w' ⟨rfl, hb, hd⟩
    exact ⟨rfl, gr_of1 hb hd⟩
  have K := Any.slices_SortFunc Try.sortI (encI (Subtype.val : WB M → Int)) (fun x => rfl) (wbO G M) (swoW G M) 25 #[.pointer (some ⟨gv, 0, none⟩)] gp 0 cap ls.toArray w eg hcmp hH hgp (by rw [hsz0]; omega)
  rw [hsz0] at K
  change Calls Try.prog 24 _ _ _ at K
  refine K.mono ?_
  rintro e w' ⟨rfl, d', n, os, hpm, hs, rfl⟩
  have hsz : d'.size = ls.toArray.size := hpm.1
  have hR := holds_reads1 (holds_sortWorld (encI (Subtype.val : WB M → Int)) w gp 0 n ls.toArray d' os hgp hH hsz) (lt_sortWorld (encI (Subtype.val : WB M → Int)) w gp 0 n d' os hgp)
  refine ⟨rfl, d'.toList.map Subtype.val, ?_, ?_, ?_, sortW_chg1⟩
  · have := hpm.2.2
    rw [← hsz0, ← hsz] at this
    have e1 : d'.extract 0 d'.size = d' := by simp
    have e2 : ls.toArray.extract 0 d'.size = ls.toArray := by rw [hsz]; simp
    rw [e1, e2] at this
    have p2 : d'.toList.Perm ls := by simpa using this
    rw [← hls]
    exact p2.map _
  · rw [List.pairwise_iff_getElem]
    intro i j hi hj hij
    have hi' : i < d'.size := by simpa using hi
    have hj' : j < d'.size := by simpa using hj
    have := hs i j (Nat.zero_le _) hij (by omega)
    rw [wb_not] at this
    simpa [hi', hj'] using this
  · simpa using hR
theorem wsort_any (h : WhAt w base g bm G now M R A C T Z) (inv : RowInv M R T) (hG : 1 ≤ G ∧ G ≤ 1024) {gv cap b0 : Nat} {P : Option Addr} (hv : w.cell? ⟨gv, 0, none⟩ = some (.pointer (some ⟨g, 0, none⟩))) {L : List Int} (hL : ∀ x ∈ L, lmHas M x = true) (hO : OwnI w b0 P cap L) (hp : ∀ b, InB P b → ¬ whF g bm A b) (hpv : ¬ InB P gv) (hl : L.length ≤ 1000000) :
    Calls Try.prog 24 #[.slice P L.length cap, wcmpFn gv] w fun e w' => e = .returned (.tuple #[]) ∧ ∃ S : List Int, S.Perm L ∧ S.Pairwise (leT G M) ∧ Reads w' w'.heap.size 1 P S.length (S.map (.int .i64)) ∧ Chg (InB P) w w' := by
  by_cases h0 : L.length = 0
  · obtain rfl : L = [] := List.eq_nil_of_length_eq_zero h0
    refine (AnyF.slices_SortFunc_none (P := Try.prog) (ρ := Try.sortI_ren) { Try.sortI with } P cap (wcmpFn gv) w).mono ?_
    rintro e w' ⟨rfl, rfl⟩
    exact ⟨rfl, [], List.Perm.refl _, List.Pairwise.nil, Reads.none_, Chg.refl _ _⟩
  · obtain ⟨gp, cap', hfv, hgp, hgl⟩ := (show w.ownsRow b0 3 1 (.slice P L.length cap) L.length (L.flatMap icell) from hO).form (by omega)
    obtain ⟨rfl, rfl⟩ : P = some ⟨gp, 0, none⟩ ∧ cap = cap' := by
      simp only [Value.slice.injEq] at hfv
      exact ⟨hfv.1, hfv.2.2⟩
    refine (wsort h inv hG hv hL hO (hp _ ⟨_, rfl, rfl⟩) (fun e => hpv ⟨_, rfl, e⟩) (by omega) hl).mono ?_
    rintro e w' ⟨rfl, S, h1, h2, h3, h4⟩
    exact ⟨rfl, S, h1, h2, h3, h4.mono fun b _ e => ⟨_, rfl, e.symm⟩⟩
end
end Go.Proofs.Ytfpepgeaaadpdaa
