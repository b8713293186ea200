/- the keys of a map of integers, sorted (by the shelf's contracts, laid in KeysL). -/
import Derived.Test.YtkpkjpdhlmjchaaKeysL
import Derived.Test.YtkpkjpdhlmjchaaLoadE
namespace Go.Proofs.Ytkpkjpdhlmjchaa
open Go Go.RowKit Go.Deep Go.Maps Go.Sort Go.Shelf

theorem keys_sorts (m : Nat) : AnyZI.SortsIn Try.prog Try.sortedA_ren Fence.wide m :=
  ⟨fun blk off cap ss W hH hblk hsz => callsIn_wide.2 (AnyM.slices_Sort_int Try.sortA blk off cap ss W hH hblk hsz),
   fun p cap W => callsIn_wide.2 (AnyM.slices_Sort_int_none Try.sortA p cap W)⟩
theorem keys_any (mb : Option Nat) (W : World) : Calls Try.prog 97 #[.map mb] W fun e w' => e = .returned (.func (.func 126) #[] #[.pointer (some ⟨W.heap.size, 0, none⟩)]) ∧ w' = W.alloc (.cells #[.map mb] 138) :=
  callsIn_wide.1 (AnyZI.keys_in Try.keysA Fence.wide 5 trivial rfl mb W)
theorem sort_keys {M : LM} (hs : lmSorted M) {ss : List Int} (h : ss.Perm (M.map Prod.fst)) : ss.mergeSort (fun x y => decide (x ≤ y)) = M.map Prod.fst := by
  have h1 := List.pairwise_mergeSort (le := fun x y : Int => decide (x ≤ y)) (by simp; omega) (by intro a b; simp; omega) ss
  have h2 : (M.map Prod.fst).Pairwise (fun a b => (decide (a ≤ b)) = true) := by
    rw [List.pairwise_map]
    exact hs.imp (fun {a b} hab => by simpa using Int.le_of_lt hab)
  refine List.Perm.eq_of_pairwise (fun a b _ _ hab hba => ?_) h1 h2 ((List.mergeSort_perm ss _).trans h)
  simp at hab hba; omega
theorem intKeys_lm (M : LM) : intKeys (lmD M) = M.map Prod.fst := by
  unfold lmD lmE
  show List.map (fun p : Lit × DataW Unit => Go.intOf p.1) (List.map _ M) = _
  rw [List.map_map]
  rfl
theorem size_lm (M : LM) : Maps.size (lmD M) = M.length := by
  unfold lmD lmE; simp [Maps.size]
set_option maxHeartbeats 1000000 in
theorem sorted_keys {b : Nat} {M : LM} {w : World} (h : Imap w b M) (hs : lmSorted M) (hl : M.length ≤ 100000) :
    Calls Try.prog 96 #[.func (.func 126) #[] #[.pointer (some ⟨w.heap.size, 0, none⟩)]] (w.alloc (.cells #[.map (some b)] 138)) fun e w' => ∃ A c, e = .returned (.slice A M.length c) ∧ Reads w' w'.heap.size 1 A M.length ((M.map Prod.fst).map (.int .i64)) ∧ Below w.heap.size w w' := by
  have hown : w.ownsMap Try.prog 3 (plainElem Try.prog 3) b M.length (lmD M) := h
  have hbl := hown.lt
  have hseq : SeqGives Fence.wide 2 Try.prog 126 #[.pointer (some ⟨w.heap.size, 0, none⟩)] encZ (fun ss => ss.Perm (intKeys (lmD M))) (Maps.size (lmD M)) (w.alloc (.cells #[.map (some b)] 138)) :=
    AnyZI.keys_gives (ρ := Try.keysA_ren) { Try.keysA with } Fence.wide _ trivial rfl (by omega) w.heap.size b M.length (lmD M) _ (by simp) (by simp) (by
      obtain ⟨es, clock, hb, Ft, hs, hD⟩ := hown
      exact ⟨es, clock, (Below.heap_alloc _ _ b hbl).trans hb, Ft, hs, hD⟩)
  have cS := AnyZI.sorted_in Try.sortedA Fence.wide 5 trivial trivial trivial trivial rfl (by omega) (keys_sorts _) (enters_of Try.func125 (by kernel_rfl) rfl) 126 #[.pointer (some ⟨w.heap.size, 0, none⟩)] trivial (enters_of Try.func126 (by kernel_rfl) rfl) _ _ (by rw [size_lm]; unfold maxLen; omega) (by rw [size_lm]; omega) _ hseq
  refine (callsIn_wide.1 cS).mono ?_
  rintro e w' ⟨v, ss, rfl, hperm, hown', -, hb⟩
  rw [intKeys_lm] at hperm
  rw [sort_keys hs hperm] at hown'
  have hlen : ss.length = M.length := by rw [hperm.length_eq, List.length_map]
  rw [hlen] at hown'
  obtain ⟨A, c, rfl⟩ := slice_of_own w' hown'
  exact ⟨A, c, rfl, Reads.of_own hown', below_chain hb (below_alloc (Below.refl _ _) _)⟩
theorem sorted_nil (w : World) :
    Calls Try.prog 96 #[.func (.func 126) #[] #[.pointer (some ⟨w.heap.size, 0, none⟩)]] (w.alloc (.cells #[.map none] 138)) fun e w' => e = .returned (.slice none 0 0) ∧ Below w.heap.size w w' := by
  have hseq : SeqGives Fence.wide 2 Try.prog 126 #[.pointer (some ⟨w.heap.size, 0, none⟩)] encZ (fun ss : List Int => ss = []) 0 (w.alloc (.cells #[.map none] 138)) :=
    AnyZI.keys_gives_nil (ρ := Try.keysA_ren) { Try.keysA with } Fence.wide _ trivial rfl w.heap.size _ (by simp) (by simp)
  have cS := AnyZI.sorted_in Try.sortedA Fence.wide 5 trivial trivial trivial trivial rfl (by omega) (keys_sorts _) (enters_of Try.func125 (by kernel_rfl) rfl) 126 #[.pointer (some ⟨w.heap.size, 0, none⟩)] trivial (enters_of Try.func126 (by kernel_rfl) rfl) _ 0 (Nat.zero_le _) (by omega) _ hseq
  refine (callsIn_wide.1 cS).mono ?_
  rintro e w' ⟨v, ss, rfl, rfl, hown', hnil, hb⟩
  exact ⟨by rw [hnil.2 rfl], below_chain hb (below_alloc (Below.refl _ _) _)⟩
end Go.Proofs.Ytkpkjpdhlmjchaa
