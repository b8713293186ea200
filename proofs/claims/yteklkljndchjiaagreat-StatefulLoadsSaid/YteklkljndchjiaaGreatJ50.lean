/- the keys of a map of integers, sorted (by the shelf's contracts, laid in KeysL). load: IDs, Total, Clear; loads that nobody made. load: Clear on loads that were made. load: the document's Clear and Total; what any steps leave. the document's loads as a part of a block, at any place. -/
import Derived.Test.YteklkljndchjiaaGreatKeysL
import Derived.Test.YteklkljndchjiaaGreatJ22
namespace Go.Proofs.YteklkljndchjiaaGreat
open Go Go.RowKit Go.Deep Go.Maps Go.Sort Go.Shelf
theorem keys_sorts (m : Nat) : AnyZI.SortsIn Tryz.prog Tryz.sortedA_ren Fence.wide m :=
 ⟨fun blk off cap ss W hH hblk hsz => callsIn_wide.2 (AnyM.slices_Sort_int Tryz.sortA blk off cap ss W hH hblk hsz),
  fun p cap W => callsIn_wide.2 (AnyM.slices_Sort_int_none Tryz.sortA p cap W)⟩
theorem keys_any (mb : Option Nat) (W : World) : Calls Tryz.prog 111 #[.map mb] W fun e w' => e = .returned (.func (.func 183) #[] #[.pointer (some ⟨W.heap.size, 0, none⟩)]) ∧ w' = W.alloc (.cells #[.map mb] 161) :=
 callsIn_wide.1 (AnyZI.keys_in Tryz.keysA Fence.wide 5 trivial rfl mb W)
theorem sort_keys {M : LM} (hs : lmSorted M) {ss : List Int} (h : ss.Perm (M.map Prod.fst)) : ss.mergeSort (fun x y => decide (x ≤ y)) = M.map Prod.fst := by
 have h1 := List.pairwise_mergeSort (le := fun x y : Int => decide (x ≤ y)) (by simp; omega) (by intro a b; simp; omega) ss
 have h2 : (M.map Prod.fst).Pairwise (fun a b => (decide (a ≤ b)) = true) := by
  rw [List.pairwise_map]
  exact hs.imp (fun {a b} hab => by simpa using Int.le_of_lt hab)
 refine List.Perm.eq_of_pairwise (fun a b _ _ hab hba => ?_) h1 h2 ((List.mergeSort_perm ss _).trans h)
 simp at hab hba; omega
theorem intKeys_lm (M : LM) : intKeys (lmD M) = M.map Prod.fst := by
 unfold lmD lmE
 show List.map (fun p : Lit × DataW Unit => Go.intOf p.1) (List.map _ M) = _
 rw [List.map_map]
 rfl
theorem size_lm (M : LM) : Maps.size (lmD M) = M.length := by
 unfold lmD lmE; simp [Maps.size]
set_option maxHeartbeats 1000000 in
theorem sorted_keys {b : Nat} {M : LM} {w : World} (h : Imap w b M) (hs : lmSorted M) (hl : M.length ≤ 100000) :
  Calls Tryz.prog 110 #[.func (.func 183) #[] #[.pointer (some ⟨w.heap.size, 0, none⟩)]] (w.alloc (.cells #[.map (some b)] 161)) fun e w' => ∃ A c, e = .returned (.slice A M.length c) ∧ Reads w' w'.heap.size 1 A M.length ((M.map Prod.fst).map (.int .i64)) ∧ Below w.heap.size w w' := by
 have hown : w.ownsMap Tryz.prog 3 (plainElem Tryz.prog 3) b M.length (lmD M) := h
 have hbl := hown.lt
 have hseq : SeqGives Fence.wide 2 Tryz.prog 183 #[.pointer (some ⟨w.heap.size, 0, none⟩)] encZ (fun ss => ss.Perm (intKeys (lmD M))) (Maps.size (lmD M)) (w.alloc (.cells #[.map (some b)] 161)) :=
  AnyZI.keys_gives (ρ := Tryz.keysA_ren) { Tryz.keysA with } Fence.wide _ trivial rfl (by omega) w.heap.size b M.length (lmD M) _ (by simp) (by simp) (by
   obtain ⟨es, clock, hb, Ft, hs, hD⟩ := hown
   exact ⟨es, clock, (Below.heap_alloc _ _ b hbl).trans hb, Ft, hs, hD⟩)
 have cS := AnyZI.sorted_in Tryz.sortedA Fence.wide 5 trivial trivial trivial trivial rfl (by omega) (keys_sorts _) (enters_of Tryz.func182 (by kernel_rfl) rfl) 183 #[.pointer (some ⟨w.heap.size, 0, none⟩)] trivial (enters_of Tryz.func183 (by kernel_rfl) rfl) _ _ (by rw [size_lm]; unfold maxLen; omega) (by rw [size_lm]; omega) _ hseq
 refine (callsIn_wide.1 cS).mono ?_
 rintro e w' ⟨v, ss, rfl, hperm, hown', -, hb⟩
 rw [intKeys_lm] at hperm
 rw [sort_keys hs hperm] at hown'
 have hlen : ss.length = M.length := by rw [hperm.length_eq, List.length_map]
 rw [hlen] at hown'
 obtain ⟨A, c, rfl⟩ := slice_of_own w' hown'
 exact ⟨A, c, rfl, Reads.of_own hown', below_chain hb (below_alloc (Below.refl _ _) _)⟩
end Go.Proofs.YteklkljndchjiaaGreat
namespace Go.Proofs.YteklkljndchjiaaGreat
open Go Go.RowKit Go.Deep
theorem load_ids (g b : Nat) (M : LM) (w : World) (h : LoadAt w g b M) (hs : lmSorted M) (hl : M.length ≤ 100000) : Calls Tryz.prog 58 #[.pointer (some ⟨g, 0, none⟩)] w fun e w' => ∃ A c, e = .returned (.slice A M.length c) ∧ Reads w' w'.heap.size 1 A M.length ((M.map Prod.fst).map (.int .i64)) ∧ Below w.heap.size w w' := by
 have c0 := h.1.cell 0
 simp at c0
 have G := Lib.hid (load_given g b M w h)
 have S := Lib.hid (sorted_keys h.2 hs hl)
 clear h
 go_enter Tryz.func58, Tryz.ntmps58
 go_wp2_with fail
 refine G.out.mono ?_
 rintro e w1 ⟨rfl, rfl⟩
 go_wp2_with fail
 refine (keys_any _ _).mono ?_
 rintro e w1 ⟨rfl, rfl⟩
 go_wp2_with fail
 refine S.out.mono ?_
 rintro e w1 ⟨A, c, rfl, hr, hb⟩
 go_wp2_with fail
 go_ret
 exact ⟨A, c, rfl, hr, hb⟩
def lmSum (M : LM) : Int := (M.map Prod.snd).sum
theorem lmSum_take (M : LM) (k : Nat) (x : Int × Int) (h : M[k]? = some x) : lmSum (M.take (k + 1)) = lmSum (M.take k) + x.2 := by
 obtain ⟨hk, rfl⟩ := List.getElem?_eq_some_iff.1 h
 unfold lmSum
 rw [List.take_succ_eq_append_getElem hk, List.map_append, List.sum_append]
 simp
theorem lmSum_bd (M : LM) (hp : lmPos M) : ∀ k, k ≤ M.length → 0 ≤ lmSum (M.take k) ∧ lmSum (M.take k) ≤ k * 1099511627776
 | 0, _ => by simp [lmSum]
 | k + 1, h => by
  have ih := lmSum_bd M hp k (by omega)
  have hx := hp M[k] (List.getElem_mem (by omega))
  rw [lmSum_take M k M[k] (List.getElem?_eq_getElem (by omega))]
  omega
theorem lmGet_at {M : LM} (hs : lmSorted M) {k : Nat} {x : Int × Int} (h : M[k]? = some x) : lmGet M x.1 = x.2 := by
 obtain ⟨hk, rfl⟩ := List.getElem?_eq_some_iff.1 h
 unfold lmGet
 have : M.find? (fun y => y.1 == M[k].1) = some M[k] := by
  rw [List.find?_eq_some_iff_getElem]
  refine ⟨by simp, k, hk, rfl, fun j hj => ?_⟩
  have := (List.pairwise_iff_getElem.1 hs) j k (by omega) hk hj
  simp; omega
 rw [this]
def lmWf (M : LM) : Prop := ∀ x ∈ M, (Lit.int .i64 x.1).wf = true
set_option maxRecDepth 100000 in
set_option maxHeartbeats 2000000 in
theorem load_total (g b : Nat) (M : LM) (w : World) (h : LoadAt w g b M) (hs : lmSorted M) (hp : lmPos M) (hw : lmWf M) (hl : M.length ≤ 100000) : Calls Tryz.prog 59 #[.pointer (some ⟨g, 0, none⟩)] w fun e w' => e = .returned (.int .i64 (lmSum M)) ∧ Below w.heap.size w w' := by
 have I := Lib.hid (load_ids g b M w h hs hl)
 go_enter Tryz.func59, Tryz.ntmps59
 go_wp2_with fail
 refine I.out.mono ?_
 rintro e w1 ⟨A, c, rfl, hr, hb⟩
 have h1 := h.call hb
 have c0 := h1.1.cell 0
 simp at c0
 clear h I
 go_wp2_with fail
 go_loopw [3, 9] (fun n i wr => ∃ k : Nat, k ≤ M.length ∧ i = .int .i64 (k : Nat) ∧ n = .int .i64 (lmSum (M.take k)) ∧ w1 = wr) (fun _ i _ => M.length - (intOf i).toNat)
 case atStart => exact ⟨0, by omega, rfl, by simp [lmSum], rfl⟩
 case round =>
  obtain ⟨k, hk, rfl, rfl, rfl⟩ := hrel
  by_cases hlt : k < M.length
  ·
   have hlti : (k : Int) < (M.length : Int) := by omega
   obtain ⟨x, hx⟩ : ∃ x, M[k]? = some x := ⟨_, List.getElem?_eq_getElem hlt⟩
   have hst := lmSum_take M k x hx
   have hbd := lmSum_bd M hp k hk
   have hbx := hp x (List.mem_of_getElem? hx)
   have hlk := h1.2.look (hw x (List.mem_of_getElem? hx))
   rw [lmGet_at hs hx] at hlk
   have hc := hr.2 (by omega)
   obtain ⟨ad, rfl, hbl, hcell⟩ := hc
   have c1 := hcell k (.int .i64 x.1) (by rw [List.getElem?_map, List.getElem?_map, hx]; rfl)
   obtain ⟨xi, xn⟩ := x
   dsimp only at *
   generalize lmSum (M.take k) = s at *
   obtain ⟨hb1, hb2⟩ := hbd
   obtain ⟨hb3, hb4⟩ := hbx
   replace hst := Lib.hid hst
   replace hcell := Lib.hid hcell
   replace hx := Lib.hid hx
   go_wp2_with fail
   go_roundw
   case rel => exact ⟨k + 1, by omega, by go_num, by rw [hst.out], (by trivial)⟩
   case measure => simp [intOf]; omega
  ·
   obtain rfl : k = M.length := by omega
   have hlti : ¬ (M.length : Int) < (M.length : Int) := by omega
   rw [List.take_length]
   go_wp2_with fail
   go_ret
   exact ⟨rfl, hb⟩
end Go.Proofs.YteklkljndchjiaaGreat
namespace Go.Proofs.YteklkljndchjiaaGreat
open Go Go.RowKit Go.Deep Go.Maps Go.ChangeMaps
def lpStep (M : LM) (s : Stp) : LM := if s.kind = 3 then lmDel M s.id else lmAdd M s.id s.n
def lpRun (l : List Stp) : LM := l.foldl lpStep []
theorem lmDel_wf {M : LM} (h : lmWf M) (id : Int) : lmWf (lmDel M id) := fun x hx => h x (List.mem_filter.1 hx).1
theorem lmAdd_wf {M : LM} (h : lmWf M) {id n : Int} (hi : (Lit.int .i64 id).wf = true) : lmWf (lmAdd M id n) := by
 unfold lmAdd
 split
 · exact h
 ·
  split
  · exact lmDel_wf h id
  ·
   intro x hx
   rcases lmIns_mem hx with rfl | hx
   · exact hi
   · exact lmDel_wf h id x hx
structure LpGood (M : LM) (n : Nat) : Prop where
 pos : lmPos M
 sorted : lmSorted M
 wf : lmWf M
 len : M.length ≤ n
def RLoadQ (w : World) (g o : Nat) (M : LM) : Prop := ∃ t cs A c B d, Blk w g t cs ∧ cs[o]? = some (.slice A M.length c) ∧ cs[o + 1]? = some (.slice B M.length d) ∧ Reads w w.heap.size 1 A (M.map Prod.fst).length ((M.map Prod.fst).map (.int .i64)) ∧ Reads w w.heap.size 1 B (M.map Prod.snd).length ((M.map Prod.snd).map (.int .i64))
def RLoadX (w w' : World) (base g o : Nat) (M : LM) : Prop := ∃ P p Q q, (∀ t cs, Blk w g t cs → Blk w' g t ((cs.setIfInBounds o (.slice P M.length p)).setIfInBounds (o + 1) (.slice Q M.length q))) ∧ Two w' base P p (pre2 M) Q q (post2 M)
end Go.Proofs.YteklkljndchjiaaGreat
