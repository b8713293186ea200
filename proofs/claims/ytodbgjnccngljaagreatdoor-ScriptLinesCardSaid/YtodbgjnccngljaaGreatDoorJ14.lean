/- strings.Builder in a block of the caller's own: copyCheck, WriteByte, WriteString, String; told by its own blocks. -/
import Derived.Test.YtodbgjnccngljaaGreatDoorJ9
import Derived.Test.YtodbgjnccngljaaGreatDoorShelf
import Derived.Lib.AppendStr
import Derived.Laws.Externs
namespace Go.Proofs.YtodbgjnccngljaaGreatDoor
open Go Go.RowKit Go.Deep
theorem bld_size : (Tryz.prog.info? 84).map (·.size) = some 2 := by kernel_rfl
theorem bld_lies : liesAt Tryz.prog Tryz.prog.depth 84 (2 / Tryz.prog.cellsOf 84) 0 84 1 = true := by kernel_rfl
theorem bld_u8 : (Tryz.prog.info? 5).map (fun i => (i.zero, i.size, i.bytes)) = some (some (.int .u8 0), 1, 1) := by kernel_rfl
def Bld (b B : Nat) (l : List UInt8) (w : World) : Prop :=
 b < B ∧ B ≤ w.heap.size ∧ ∃ p v, (p = .pointer none ∨ p = .pointer (some ⟨b, 0, none⟩)) ∧ w.heap[b]? = some (.cells #[p, v] 84 (0, 0)) ∧ w.ownsRow B 5 1 v l.length (Lib.byteCells l)
def FB (b B : Nat) : Nat → Prop := fun k => k = b ∨ B ≤ k
theorem own_mono {w : World} {B B' : Nat} {v : Value} {n : Nat} {xs : List Value} (h : w.ownsRow B 5 1 v n xs) (hb : B' ≤ B) : w.ownsRow B' 5 1 v n xs :=
 ⟨h.1, h.2.imp (fun x => x) fun ⟨g, cap, cur, a, b, c⟩ => ⟨g, cap, cur, a, Nat.le_trans hb b, c⟩⟩
theorem own_ne {w : World} {b B : Nat} {v : Value} {n : Nat} {xs : List Value} (h : w.ownsRow B 5 1 v n xs) (hb : b < B) : v.ownBlock = none ∨ v.ownBlock ≠ some b := by
 refine Or.inr fun e => ?_
 have := (h.lt b e).1
 omega
theorem Bld.fresh (w : World) (B : Nat) (hB : w.heap.size < B) (w' : World) (h : Below (w.heap.size + 1) (w.alloc (.cells #[.pointer none, .slice none 0 0] 84)) w') (hs : B ≤ w'.heap.size) : Bld w.heap.size B [] w' :=
 ⟨hB, hs, _, _, Or.inl rfl, by rw [h.block _ (by omega)]; exact heap_alloc_new w _, World.ownsRow_nil _ _ _ _⟩
theorem Bld.drew {b B : Nat} {l : List UInt8} {w : World} (h : Bld b B l w) : Bld b B l w.drew := h
theorem Bld.alloc {b B : Nat} {l : List UInt8} {w : World} (h : Bld b B l w) (o : Obj) : Bld b B l (w.alloc o) := by
 obtain ⟨h1, h2, p, v, h3, h4, h5⟩ := h
 exact ⟨h1, by simp; omega, p, v, h3, by rw [Lib.alloc_old w o b (by omega)]; exact h4, h5.alloc o⟩
set_option maxRecDepth 100000 in
theorem bld_check (b B : Nat) (l : List UInt8) (w : World) (h : Bld b B l w) :
  Calls Tryz.prog 65 #[.pointer (some ⟨b, 0, none⟩)] w fun e w' => e = .returned (.tuple #[]) ∧ Chg (· = b) w w' ∧ b < B ∧ B ≤ w'.heap.size ∧ ∃ v, w'.heap[b]? = some (.cells #[.pointer (some ⟨b, 0, none⟩), v] 84 (0, 0)) ∧ w'.ownsRow B 5 1 v l.length (Lib.byteCells l) := by
 obtain ⟨h1, h2, p, v, h3, h4, h5⟩ := h
 obtain ⟨j, hj, hjs⟩ := Option.map_eq_some_iff.1 bld_size
 have c0 : w.cell? ⟨b, 0, none⟩ = some p := by rw [Lib.cell_of_heap h4]; rfl
 have f0 : w.frozen? ⟨b, 0, none⟩ = false := Lib.frozen_of_heap h4 0
 have hsh : w.shape? b = some (84, 2) := by simp [World.shape?, h4]
 rcases h3 with rfl | rfl
 ·
  go_enter Tryz.func65, Tryz.ntmps65
  go_wp2
  rw [Lib.run_to_unsafe w ⟨b, 0, none⟩ Tryz.underlying81 Tryz.underlying111 hj (by rw [hjs]; decide) hsh (Nat.zero_lt_succ 1)]
  simp only [Result.andThen]
  rw [Oper.upon_value]
  go_wp2
  rw [run_callFunc_extern Tryz.func79 (by kernel_rfl) (by kernel_rfl) (by kernel_rfl) (e := Extern.AbiNoEscape.same) (by kernel_rfl)]
  rw [Lib.run_noEscape]
  simp only [Result.andThen]
  rw [Oper.upon_value]
  go_wp2
  rw [Lib.run_from_unsafe w ⟨b, 0, none⟩ Tryz.underlying111 Tryz.underlying81 hj hsh bld_lies]
  simp only [Result.andThen]
  rw [Oper.upon_value]
  go_wp2
  go_end0
  refine ⟨rfl, (Chg.refl (· = b) _).setCell (p := ⟨b, 0, none⟩) (fun _ => rfl) _, h1, by simp [World.setCell]; exact h2, v, by simp [World.setCell, Array.getElem?_modify, h4], ?_⟩
  exact h5.kept (row := some b) ⟨rfl, rfl, rfl, by simp [World.setCell], fun k _ hk => Below.heap_setCell _ _ _ _ (fun e => hk (by simp [e]))⟩ (own_ne h5 h1)
 ·
  go_enter Tryz.func65, Tryz.ntmps65
  go_wp2
  rw [Lib.run_neq_ptr_same w _ Tryz.underlying81 hj]
  go_wp2
  go_end0
  exact ⟨rfl, Chg.refl _ _, h1, h2, v, h4, h5⟩
theorem bld_put {b B : Nat} {p v v' : Value} {l : List UInt8} {w : World} (h1 : b < B) (h2 : B ≤ w.heap.size) (h3 : p = .pointer none ∨ p = .pointer (some ⟨b, 0, none⟩)) (hb : w.heap[b]? = some (.cells #[p, v] 84 (0, 0)))
  (hown : w.ownsRow B 5 1 v' l.length (Lib.byteCells l)) : Bld b B l (w.setCell ⟨b, 1, none⟩ v') :=
 ⟨h1, by simp [World.setCell]; exact h2, p, v', h3, by simp [World.setCell, Array.getElem?_modify, hb],
  hown.kept (row := some b) ⟨rfl, rfl, rfl, by simp [World.setCell], fun k _ hk => Below.heap_setCell _ _ _ _ (fun e => hk (by simp [e]))⟩ (own_ne hown h1)⟩
set_option maxHeartbeats 4000000 in
set_option maxRecDepth 100000 in
theorem bld_byte (b B : Nat) (l : List UInt8) (c : UInt8) (w : World) (h : Bld b B l w) (hlen : l.length + 1 ≤ 140737488355328) :
  Calls Tryz.prog 89 #[.pointer (some ⟨b, 0, none⟩), .int .u8 (c.toNat : Int)] w fun e w' => e = .returned .nilIface ∧ Bld b B (l ++ [c]) w' ∧ Chg (FB b B) w w' := by
 obtain ⟨i0, hi, hz0, hz1, hz2⟩ := info_parts bld_u8
 have K := bld_check b B l w h
 go_enter Tryz.func89, Tryz.ntmps89
 go_wp2_with (go_at_call 65; refine K.mono ?_)
 rintro e w1 ⟨rfl, hk1, hB, hBs, v, hbk, hown⟩
 have c0 : w1.cell? ⟨b, 0, none⟩ = some (.pointer (some ⟨b, 0, none⟩)) := by rw [Lib.cell_of_heap hbk]; rfl
 have c1 : w1.cell? ⟨b, 1, none⟩ = some v := by rw [Lib.cell_of_heap hbk]; rfl
 go_wp2_with (at_builtin; refine wpList_append_own _ rfl _ _ 82 rfl B 5 i0 (.int .u8 0) 1 1 Tryz.underlying82 hi hz0 hz1 hz2 rfl (by decide) _ _ _ rfl (hown.alloc _) ⟨w1.heap.size, 0, none⟩ 1 1 [.int .u8 (c.toNat : Int)] rfl rfl ?c1 ?c2 ?c3 ?c4 ?c5 ?_)
 case c1 =>
  intro j u hj
  match j, hj with
  | 0, hj => simp at hj; subst hj; simp [Addr.add]
 case c2 => intro u hu; simp at hu; subst hu; rfl
 case c3 => unfold maxLen; omega
 case c4 => omega
 case c5 => simp; omega
 intro v' w2 hown' hgrow _
 have hlt : b < w1.heap.size := by omega
 have hne := own_ne hown hB
 have hb2 : w2.heap[b]? = some (.cells #[.pointer (some ⟨b, 0, none⟩), v] 84 (0, 0)) := by
  rw [hgrow.block b (by simp; omega) (fun e => by rcases hne with h | h <;> simp_all), Lib.alloc_old w1 _ b hlt]
  exact hbk
 have d0 : w2.cell? ⟨b, 0, none⟩ = some (.pointer (some ⟨b, 0, none⟩)) := by rw [Lib.cell_of_heap hb2]; rfl
 have d1 : w2.cell? ⟨b, 1, none⟩ = some v := by rw [Lib.cell_of_heap hb2]; rfl
 have f1 : w2.frozen? ⟨b, 1, none⟩ = false := Lib.frozen_of_heap hb2 1
 obtain ⟨g, cap, rfl⟩ : ∃ g cap, v' = .slice (some ⟨g, 0, none⟩) (l.length + 1) cap := by
  rcases hown'.2 with ⟨_, h0⟩ | ⟨g, cap, cur, hv, _⟩
  · omega
  · exact ⟨g, cap, hv⟩
 have hs2 := hgrow.size
 go_wp2
 go_ret
 refine ⟨rfl, bld_put hB (by simp at hs2; omega) (Or.inr rfl) hb2 ?_, ?_⟩
 ·
  rw [Lib.byteCells_append, List.length_append]
  exact hown'
 ·
  refine Chg.setCell (p := ⟨b, 1, none⟩) ?_ (fun _ => Or.inl rfl) _
  refine Chg.grown ((hk1.mono (fun _ _ h => Or.inl h)).alloc _) hgrow ?_
  intro k hk _
  exact Or.inr (hown.lt k hk).1
set_option maxHeartbeats 4000000 in
set_option maxRecDepth 100000 in
theorem bld_str (b B : Nat) (l x : List UInt8) (w : World) (h : Bld b B l w) (hlen : l.length + x.length ≤ 140737488355328) :
  Calls Tryz.prog 43 #[.pointer (some ⟨b, 0, none⟩), .string ⟨x.toArray⟩] w fun e w' => e = .returned (.tuple #[.int .i64 (x.length : Nat), .nilIface]) ∧ Bld b B (l ++ x) w' ∧ Chg (FB b B) w w' := by
 obtain ⟨i0, hi, hz0, hz1, hz2⟩ := info_parts bld_u8
 have K := bld_check b B l w h
 go_enter Tryz.func43, Tryz.ntmps43
 go_wp2_with (go_at_call 65; refine K.mono ?_)
 rintro e w1 ⟨rfl, hk1, hB, hBs, v, hbk, hown⟩
 have c0 : w1.cell? ⟨b, 0, none⟩ = some (.pointer (some ⟨b, 0, none⟩)) := by rw [Lib.cell_of_heap hbk]; rfl
 have c1 : w1.cell? ⟨b, 1, none⟩ = some v := by rw [Lib.cell_of_heap hbk]; rfl
 have hxs : (ByteArray.mk x.toArray).size = x.length := rfl
 go_wp2_with (at_builtin; refine Lib.wpList_append_own_string _ rfl _ _ 82 9 rfl B 5 i0 Tryz.underlying82 Tryz.underlying9 hi hz0 hz1 hz2 _ _ _ rfl hown ⟨x.toArray⟩ rfl ?c3 ?c4 ?c5 ?_)
 case c3 => unfold maxLen; omega
 case c4 => omega
 case c5 => omega
 intro v' w2 hown' hgrow _
 have hlt : b < w1.heap.size := by omega
 have hne := own_ne hown hB
 have hb2 : w2.heap[b]? = some (.cells #[.pointer (some ⟨b, 0, none⟩), v] 84 (0, 0)) := by
  rw [hgrow.block b hlt (fun e => by rcases hne with h | h <;> simp_all)]
  exact hbk
 have d0 : w2.cell? ⟨b, 0, none⟩ = some (.pointer (some ⟨b, 0, none⟩)) := by rw [Lib.cell_of_heap hb2]; rfl
 have d1 : w2.cell? ⟨b, 1, none⟩ = some v := by rw [Lib.cell_of_heap hb2]; rfl
 have f1 : w2.frozen? ⟨b, 1, none⟩ = false := Lib.frozen_of_heap hb2 1
 obtain ⟨ao, n', cap, rfl⟩ : ∃ ao n' cap, v' = .slice ao n' cap := by
  rcases hown'.2 with ⟨hv, _⟩ | ⟨g, cap, cur, hv, _⟩
  · exact ⟨_, _, _, hv⟩
  · exact ⟨_, _, _, hv⟩
 have hs2 := hgrow.size
 go_wp2
 go_ret2
 refine ⟨rfl, bld_put hB (by omega) (Or.inr rfl) hb2 ?_, ?_⟩
 ·
  rw [Lib.byteCells_append, List.length_append]
  exact hown'
 ·
  refine Chg.setCell (p := ⟨b, 1, none⟩) ?_ (fun _ => Or.inl rfl) _
  refine Chg.grown (hk1.mono (fun _ _ h => Or.inl h)) hgrow ?_
  intro k hk _
  exact Or.inr (hown.lt k hk).1
theorem bld_text (b B : Nat) (l : List UInt8) (w : World) (h : Bld b B l w) :
  Calls Tryz.prog 44 #[.pointer (some ⟨b, 0, none⟩)] w fun e w' => e = .returned (.string ⟨l.toArray⟩) ∧ Below b w w' := by
 obtain ⟨h1, h2, p, v, h3, h4, h5⟩ := h
 refine Tryz.Builder_String_any b b l w ?_ (by omega)
 have hA : Lib.BuilderAt 84 5 b b p (Lib.byteCells l) w := by
  refine ⟨Nat.le_refl _, v, h4, by rw [Lib.byteCells_length]; exact own_mono h5 (by omega), ?_⟩
  rcases own_ne h5 h1 with h | h
  · rw [h]; simp
  · exact h
 rcases h3 with rfl | rfl
 · exact Or.inl hA
 · exact Or.inr hA
end Go.Proofs.YtodbgjnccngljaaGreatDoor
