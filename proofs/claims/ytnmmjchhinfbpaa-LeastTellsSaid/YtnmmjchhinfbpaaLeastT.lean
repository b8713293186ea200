/- least: SortStableFunc at backends by load. -/
import Derived.Test.YtnmmjchhinfbpaaLeastR
namespace Go.Proofs.Ytnmmjchhinfbpaa
open Go Go.RowKit Go.Deep

abbrev ordFn (gc : Nat) : Value := .func (Fn.func 82) #[] #[.pointer (some ⟨gc, 0, none⟩)]
/-- Backends in order. -/
def sortedB (M : LM) (S : List Bk) : Prop := ∀ i j (hi : i < S.length) (hj : j < S.length), i < j → lessM M S[j] S[i] = false
theorem sb_list {M : LM} : ∀ (l : List Bk), (∀ x ∈ l, bkWf x ∧ bearB (lmGet M x.id) x.w = true) → ∃ ls : List (SB M), ls.map Subtype.val = l
  | [], _ => ⟨[], rfl⟩
  | x :: r, h => by
    obtain ⟨ls, e⟩ := sb_list r fun y hy => h y (List.mem_cons_of_mem _ hy)
    exact ⟨⟨x, h x (List.mem_cons_self ..)⟩ :: ls, by simp [e]⟩
theorem sb_flat {M : LM} (ls : List (SB M)) : ls.flatMap sbC = (ls.map Subtype.val).flatMap Bk.cells := by
  rw [List.flatMap_map]
theorem ins_any {M : LM} {w : World} {base gp cap g b gc : Nat} {l : List Bk} (h : OwnA Bk.cells 6 46 w base (some ⟨gp, 0, none⟩) cap l) (hb : gp < w.heap.size) (h0 : 0 < l.length) (hl : l.length ≤ 1000)
    (hB : ∀ x ∈ l, bkWf x ∧ bearB (lmGet M x.id) x.w = true) (hc : w.cell? ⟨gc, 0, none⟩ = some (.pointer (some ⟨g, 0, none⟩))) (hL : LoadAt w g b M) (n1 : gp ≠ g) (n2 : gp ≠ b) (n3 : gp ≠ gc) :
    Calls Try.prog 109 #[.slice (some ⟨gp, 0, none⟩) l.length cap, .int .i64 0, .int .i64 l.length, ordFn gc] w fun e w' => e = .returned (.tuple #[]) ∧ ∃ S : List Bk, S.Perm l ∧ sortedB M S ∧ Reads w' w'.heap.size 6 (some ⟨gp, 0, none⟩) S.length (S.flatMap Bk.cells) ∧ Chg (· = gp) w w' := by
  obtain ⟨ls, hls⟩ := sb_list l hB
  have hlen : ls.length = l.length := by rw [← hls, List.length_map]
  have hne : ls ≠ [] := fun e => by rw [e] at hlen; simp at hlen; omega
  obtain ⟨x0, r0, hx0⟩ := List.exists_cons_of_ne_nil hne
  letI : Inhabited (SB M) := ⟨x0⟩
  have hO : OwnA (sbC (M := M)) 6 46 w base (some ⟨gp, 0, none⟩) cap ls := by
    unfold OwnA at h ⊢
    rw [sb_flat, hls, hlen]
    exact h
  have eg : ∀ args w, (callFunc 82 args).run Try.prog w = .ok (.enter 82 args) w := enters_of Try.func82 (by kernel_rfl) rfl
  have hH := own_holdsG (cells := sbC (M := M)) (m := 6) (fun _ => rfl) (by omega) hO
  have hsz0 : ls.toArray.size = l.length := by simp [hlen]
  have K := AnyQ.insertionSortCmpFunc Try.insBk 6 Try.isAgg46 Try.sizeOf46 (sbC (M := M)) (fun _ => rfl) (fun x u hu => by
    simp at hu
    rcases hu with rfl | rfl | rfl | rfl | rfl | rfl <;> rfl) sbO 82 #[.pointer (some ⟨gc, 0, none⟩)] gp 0 cap 0 ls.toArray.size ls.toArray w eg (cmpLaysS g b gc gp _ w hc hL n1 n2 n3) hH hb (Nat.zero_le _) (Nat.le_refl _) (by rw [hsz0]; omega)
  rw [hsz0] at K
  change Calls Try.prog 109 _ _ _ at K
  refine K.mono ?_
  rintro e w' ⟨rfl, n, os, rfl⟩
  obtain ⟨hp, hs⟩ := Sort.insertionSort_holds (swoS M) ls.toArray 0 l.length (Nat.zero_le _) (by rw [hsz0]; exact Nat.le_refl _)
  generalize Sort.insertionSort (ltOf sbO) ls.toArray 0 l.length = d' at *
  have hsz : d'.size = ls.toArray.size := hp.1
  have hsz2 : d'.size = ls.length := by simpa using hsz
  refine ⟨rfl, d'.toList.map Subtype.val, ?_, ?_, ?_, sortW_chgG⟩
  · have := hp.2.2
    rw [← hsz0, ← hsz] at this
    have e1 : d'.extract 0 d'.size = d' := by simp
    have e2 : ls.toArray.extract 0 d'.size = ls.toArray := by rw [hsz]; simp
    rw [e1, e2] at this
    have p2 : d'.toList.Perm ls := by simpa using this
    rw [← hls]
    exact p2.map _
  · intro i j hi hj hij
    have hi' : i < d'.size := by simpa using hi
    have hj' : j < d'.size := by simpa using hj
    have := hs i j (Nat.zero_le _) hij (by omega)
    rw [sb_lt] at this
    simpa [hi', hj'] using this
  · have hH2 := holdsK_sortWorldK_c (sbC (M := M)) 6 w gp 0 ls.toArray d' n os hH hb hsz
    have hR := holds_readsG (cells := sbC (M := M)) (m := 6) (fun _ => rfl) (by omega) hH2 (Nat.lt_of_lt_of_le hb (size_sortWorldK_c _ _ _ _ _ _ _ _))
    rw [sb_flat] at hR
    rw [List.length_map]
    exact hR
set_option maxHeartbeats 2000000 in
theorem stable_any {M : LM} {w : World} {base gp cap g b gc : Nat} {l : List Bk} (h : OwnA Bk.cells 6 46 w base (some ⟨gp, 0, none⟩) cap l) (hb : gp < w.heap.size) (h0 : 0 < l.length) (hl : l.length ≤ 12)
    (hB : ∀ x ∈ l, bkWf x ∧ bearB (lmGet M x.id) x.w = true) (hc : w.cell? ⟨gc, 0, none⟩ = some (.pointer (some ⟨g, 0, none⟩))) (hL : LoadAt w g b M) (n1 : gp ≠ g) (n2 : gp ≠ b) (n3 : gp ≠ gc) :
    Calls Try.prog 61 #[.slice (some ⟨gp, 0, none⟩) l.length cap, ordFn gc] w fun e w' => e = .returned (.tuple #[]) ∧ ∃ S : List Bk, S.Perm l ∧ sortedB M S ∧ Reads w' w'.heap.size 6 (some ⟨gp, 0, none⟩) S.length (S.flatMap Bk.cells) ∧ Chg (· = gp) w w' := by
  have INS := ins_any h hb h0 (by omega) hB hc hL n1 n2 n3
  have d1 : decide ((20 : Int) ≤ (l.length : Int)) = false := by simp; omega
  have d2 : decide ((20 : Int) < (l.length : Int)) = false := by simp; omega
  have ST : Calls Try.prog 87 #[.slice (some ⟨gp, 0, none⟩) l.length cap, .int .i64 l.length, ordFn gc] w fun e w' => e = .returned (.tuple #[]) ∧ ∃ S : List Bk, S.Perm l ∧ sortedB M S ∧ Reads w' w'.heap.size 6 (some ⟨gp, 0, none⟩) S.length (S.flatMap Bk.cells) ∧ Chg (· = gp) w w' := by
    replace INS := Lib.hid INS
    clear h hb h0 hl hB hc hL n1 n2 n3
    go_enter Try.func87, Try.ntmps87
    go_wp2_with fail
    refine wp_loop_rounds 1 ?_
    rw [rounds_succ]
    go_wp2_with fail
    refine INS.out.mono ?_
    rintro e w1 ⟨rfl, S, k1, k2, k3, k4⟩
    replace k1 := Lib.hid k1
    replace k2 := Lib.hid k2
    replace k3 := Lib.hid k3
    go_wp2_with fail
    refine wp_loop_rounds 1 ?_
    rw [rounds_succ]
    go_wp2_with fail
    go_end0
    exact ⟨rfl, S, k1.out, k2.out, k3.out, k4⟩
  replace ST := Lib.hid ST
  clear h hb h0 hl hB hc hL n1 n2 n3 INS
  go_enter Try.func61, Try.ntmps61
  go_wp2_with fail
  refine ST.out.mono ?_
  rintro e w1 ⟨rfl, S, k1, k2, k3, k4⟩
  replace k1 := Lib.hid k1
  replace k2 := Lib.hid k2
  replace k3 := Lib.hid k3
  go_wp2_with fail
  go_end0
  exact ⟨rfl, S, k1.out, k2.out, k3.out, k4⟩
end Go.Proofs.Ytnmmjchhinfbpaa
