/- load and its reference: bears, Less. the reference's loads: Get, set. the reference's loads: set and Add come to the same list. wheel: what a wheel is in memory; its small functions. wheel: a row without one number. backends; two and its reference: Draw. the reference's Draw; the closure that is the better one of two; folds. two: better, fold. two: Best, Pick. two: Pick; the .. -/
import Derived.Test.YtohapcacckapoaaGreatJ10
import Derived.Test.YtohapcacckapoaaGreatJ24
import Derived.Test.YtohapcacckapoaaGreatJ9
import Derived.Maps.OwnSet
import Derived.Deep.QuietTactic
import Derived.Laws.IdiomCopy
import Derived.Deep.RegionHeld3
import Derived.Test.YtohapcacckapoaaGreatJ3
import Derived.Test.YtohapcacckapoaaGreatJ15
import Derived.Deep.Cut
import Derived.StillTailTactics
import Derived.BigQuiet
import Derived.Deep.RegionLaw
import Derived.Deep.RegionWith
namespace Go.Proofs.YtohapcacckapoaaGreat
open Go Go.RowKit Go.Deep
def bearB (L W : Int) : Bool := decide (0 ≤ L) && decide (L ≤ 1099511627776) && decide (1 ≤ W) && decide (W ≤ 1000)
def lessB (L W i L2 W2 i2 : Int) : Bool := bearB L W && bearB L2 W2 && (decide (L * W2 < L2 * W) || (decide (L * W2 = L2 * W) && decide (i < i2)))
structure Two (w : World) (base : Nat) (A : Option Addr) (c : Nat) (L : List Int) (B : Option Addr) (d : Nat) (K : List Int) : Prop where
 fst : OwnI w base A c L
 snd : OwnI w base B d K
 apart : ∀ b, InB A b → ¬ InB B b
section
variable {w w' : World} {base : Nat} {A A' B B' : Option Addr} {c d c' d' : Nat} {L K : List Int} {v : Int}
end
theorem lmGet_hit {M : LM} {id : Int} {k : Nat} (h : ∀ j, j < k → (M.getD j (0, 0)).1 ≠ id) (hk : k < M.length) (he : (M.getD k (0, 0)).1 = id) : lmGet M id = (M.getD k (0, 0)).2 := by
 unfold lmGet
 have : M.find? (fun x => x.1 == id) = some (M.getD k (0, 0)) := by
  rw [List.find?_eq_some_iff_getElem]
  refine ⟨by simpa using he, k, hk, by simp [List.getD_eq_getElem?_getD, hk], fun j hj => ?_⟩
  have := h j hj
  simp [List.getD_eq_getElem?_getD, show j < M.length by omega] at this
  simpa using this
 rw [this]
def refStep (id n : Int) (st : LM × Bool) (x : Int × Int) : LM × Bool :=
 let st1 := if !st.2 && decide (id ≤ x.1) then (st.1 ++ [(id, n)], true) else st
 if x.1 = id then st1 else (st1.1 ++ [x], st1.2)
def refRun (M : LM) (id n : Int) : LM × Bool := M.foldl (refStep id n) ([], n == 0)
def refSet (M : LM) (id n : Int) : LM := if (refRun M id n).2 then (refRun M id n).1 else (refRun M id n).1 ++ [(id, n)]
def pre2 (L : LM) : List Int := L.map Prod.fst
def post2 (L : LM) : List Int := L.map Prod.snd
def lmSorted (M : LM) : Prop := M.Pairwise fun x y => x.1 < y.1
theorem lmDel_sorted {M : LM} (h : lmSorted M) (id : Int) : lmSorted (lmDel M id) := List.Pairwise.filter _ h
theorem lmIns_sorted {id n : Int} : ∀ {L : LM}, lmSorted L → (∀ y ∈ L, y.1 ≠ id) → lmSorted (lmIns (id, n) L)
 | [], _, _ => by simp [lmSorted, lmIns]
 | y :: L, hs, hne => by
  obtain ⟨h1, h2⟩ := List.pairwise_cons.1 hs
  unfold lmIns
  by_cases h : id < y.1
  ·
   rw [if_pos h]
   exact List.pairwise_cons.2 ⟨fun z hz => by
    rcases List.mem_cons.1 hz with rfl | hz
    · exact h
    · have := h1 z hz; show id < z.1; omega, hs⟩
  ·
   rw [if_neg h]
   have hy := hne y (by simp)
   refine List.pairwise_cons.2 ⟨fun z hz => ?_, lmIns_sorted h2 fun z hz => hne z (by simp [hz])⟩
   rcases lmIns_mem hz with rfl | hz
   · show y.1 < id; omega
   · exact h1 z hz
theorem lmPut_sorted {M : LM} (h : lmSorted M) (id v : Int) : lmSorted (lmPut M id v) := lmIns_sorted (lmDel_sorted h id) fun y hy => by simpa using (List.mem_filter.1 hy).2
theorem lmAdd_sorted {M : LM} (h : lmSorted M) (id n : Int) : lmSorted (lmAdd M id n) := by
 unfold lmAdd
 split
 · exact h
 ·
  split
  · exact lmDel_sorted h id
  · exact lmPut_sorted h id _
end Go.Proofs.YtohapcacckapoaaGreat
namespace Go.Proofs.YtohapcacckapoaaGreat
open Go Go.RowKit Go.Deep Go.Maps Go.ChangeMaps
def lmHas (M : LM) (id : Int) : Bool := M.any fun x => x.1 == id
theorem lm_has (M : LM) (id : Int) : Maps.has (lmD M) (ilit id) = lmHas M id := by
 show (lmE M).any (fun p => p.1.sameKey (ilit id)) = _
 unfold lmE lmHas
 rw [List.any_map]
 congr 1
 funext x
 exact ilit_same _ _
theorem lm_size (M : LM) : Maps.size (lmD M) = M.length := by
 show (lmE M).length = _
 unfold lmE
 rw [List.length_map]
theorem Imap.look2 {w : World} {b : Nat} {M : LM} (h : Imap w b M) {id : Int} (hk : (Lit.int .i64 id).wf = true) :
  (Instr.lookup 61 (.map (some b)) (.int .i64 id) true).run Tryz.prog w = .ok (.tuple #[.int .i64 (lmGet M id), .bool (lmHas M id)]) w := by
 obtain ⟨v, ps, hrun, hat⟩ := World.ownsMap.look_ok h int_law Tryz.underlying61 (int_zero w) (plainElem_int Tryz.underlying3 (by decide)) (int_key hk)
 obtain ⟨c, rfl, hc, _⟩ := plainElem_int_inv Tryz.underlying3 hat
 simp only [Prod.mk.injEq] at hc
 have := (lm_at M id).symm.trans hc.1
 simp [ilit] at this
 rw [hrun, this, lm_has]
theorem Imap.len {w : World} {b : Nat} {M : LM} (h : Imap w b M) : (Builtin.len_ #[61] 3 #[.map (some b)]).run Tryz.prog w = .ok (.int .i64 M.length) w := by
 have := World.ownsMap.len h Tryz.underlying61 3
 rw [lm_size] at this
 exact this
structure WhAt (w : World) (base g bm : Nat) (G now : Int) (M : LM) (R : Nat → List Int) (A : Nat → Option Addr) (C : Nat → Nat) (T : Nat → Int) (Z : Array Value) : Prop where
 blk : Blk w g 210 Z
 size : Z.size = 4163
 z0 : Z[0]? = some (.int .i64 G)
 z1 : Z[1]? = some (.int .i64 now)
 z2 : Z[2]? = some (.map (some bm))
 row : ∀ k, k < 64 → Z[3 + k]? = some (.slice (A k) (R k).length (C k))
 own : ∀ k, k < 64 → OwnI w base (A k) (C k) (R k)
 apart : ∀ k j, k < 64 → j < 64 → k ≠ j → ∀ b, InB (A k) b → ¬ InB (A j) b
 at_ : ∀ i, i < 4096 → Z[67 + i]? = some (.int .i32 (T i))
 map : Imap w bm M
 gb : base ≤ g
 mb : base ≤ bm
section
variable {w w' : World} {base g bm : Nat} {G now : Int} {M : LM} {R : Nat → List Int} {A : Nat → Option Addr} {C : Nat → Nat} {T : Nat → Int} {Z : Array Value}
theorem WhAt.call (h : WhAt w base g bm G now M R A C T Z) (hb : Below w.heap.size w w') : WhAt w' base g bm G now M R A C T Z :=
 ⟨h.blk.call hb, h.size, h.z0, h.z1, h.z2, h.row, fun k hk => (h.own k hk).call hb, h.apart, h.at_, h.map.call hb, h.gb, h.mb⟩
theorem WhAt.cell (h : WhAt w base g bm G now M R A C T Z) {i : Nat} {v : Value} (hz : Z[i]? = some v) : w.cell? ⟨g, i, none⟩ = some v := (h.blk.cell i).trans hz
def whF (g bm : Nat) (A : Nat → Option Addr) (b : Nat) : Prop := b = g ∨ b = bm ∨ ∃ k, k < 64 ∧ InB (A k) b
theorem WhAt.chg {F : Nat → Prop} (h : WhAt w base g bm G now M R A C T Z) (k : Chg F w w') (hF : ∀ b, F b → ¬ whF g bm A b) : WhAt w' base g bm G now M R A C T Z :=
 ⟨h.blk.chg k (fun e => hF _ e (.inl rfl)), h.size, h.z0, h.z1, h.z2, h.row, fun j hj => (h.own j hj).chg k (fun b hb e => hF b e (.inr (.inr ⟨j, hj, hb⟩))), h.apart, h.at_, h.map.chg k (fun e => hF _ e (.inr (.inl rfl))), h.gb, h.mb⟩
theorem WhAt.whF_lt (h : WhAt w base g bm G now M R A C T Z) {b : Nat} (hb : whF g bm A b) : base ≤ b ∧ b < w.heap.size := by
 rcases hb with rfl | rfl | ⟨k, hk, hb⟩
 · exact ⟨h.gb, h.blk.lt⟩
 · exact ⟨h.mb, h.map.lt⟩
 · exact (h.own k hk).block hb
theorem wheel_given (h : WhAt w base g bm G now M R A C T Z) (hG : 0 < G) : Calls Tryz.prog 137 #[.pointer (some ⟨g, 0, none⟩)] w fun e w' => e = .returned (.bool true) ∧ w = w' := by
 have c0 := h.cell h.z0
 have hd : decide (0 < G) = true := by simpa using hG
 clear h
 go_enter Tryz.func137, Tryz.ntmps137
 go_wp2_with fail
 go_ret
 exact ⟨by first | rfl | simp [hd], rfl⟩
def turnI (G due : Int) : Int := (due + G - 1) / G
theorem wheel_turn (h : WhAt w base g bm G now M R A C T Z) (hG : 1 ≤ G ∧ G ≤ 1024) (due : Int) (hd : 0 ≤ due ∧ due ≤ 2199023255552) : Calls Tryz.prog 143 #[.pointer (some ⟨g, 0, none⟩), .int .i64 due] w fun e w' => e = .returned (.int .i64 (turnI G due)) ∧ ∃ n, w' = w.drewN n := by
 have c0 := h.cell h.z0
 have hq : (due + G - 1) / G = turnI G due := rfl
 have hz : (G == 0) = false := by rw [beq_eq_false_iff_ne]; omega
 generalize turnI G due = r at *
 replace hq := Lib.hid hq
 clear h
 go_enter Tryz.func143, Tryz.ntmps143
 go_wp2_with fail
 go_quiet (fail)
 go_wp2_with fail
 go_ret
 exact ⟨by rw [← hq.out]; rfl, _, rfl⟩
theorem wheel_due (h : WhAt w base g bm G now M R A C T Z) (hG : 0 < G) (id : Int) (hk : (Lit.int .i64 id).wf = true) : Calls Tryz.prog 154 #[.pointer (some ⟨g, 0, none⟩), .int .i64 id] w fun e w' => e = .returned (.tuple #[.int .i64 (lmGet M id), .bool (lmHas M id)]) ∧ w = w' := by
 have GV := Lib.hid (wheel_given h hG)
 have c2 := h.cell h.z2
 have hl := h.map.look2 hk
 clear h
 go_enter Tryz.func154, Tryz.ntmps154
 go_wp2_with fail
 refine GV.out.mono ?_
 rintro e w1 ⟨rfl, rfl⟩
 go_wp2_with fail
 go_ret2
 exact ⟨rfl, rfl⟩
def rowI (G now due : Int) : Int := (max (turnI G due) (now / G)) % 64
end
theorem wheel_new_bad (G : Int) (w : World) (h : G < 1 ∨ 1024 < G) : Calls Tryz.prog 99 #[.int .i64 G] w fun e w' => e = .returned (.pointer none) ∧ w = w' := by
 by_cases h1 : G < 1
 ·
  have d1 : decide (G < 1) = true := by simpa using h1
  clear h
  go_enter Tryz.func99, Tryz.ntmps99
  go_wp2_with fail
  go_ret
  exact ⟨rfl, rfl⟩
 ·
  have d1 : decide (G < 1) = false := by simpa using h1
  have d2 : decide (1024 < G) = true := by simp; omega
  clear h
  go_enter Tryz.func99, Tryz.ntmps99
  go_wp2_with fail
  go_ret
  exact ⟨rfl, rfl⟩
theorem whZ (G : Int) (bm : Nat) (Z : Array Value) (hZ : Z = (wzL.toArray.setIfInBounds 0 (.int .i64 G)).setIfInBounds 2 (.map (some bm))) :
  Z.size = 4163 ∧ Z[0]? = some (.int .i64 G) ∧ Z[1]? = some (.int .i64 0) ∧ Z[2]? = some (.map (some bm)) ∧ (∀ k, k < 64 → Z[3 + k]? = some (.slice none 0 0)) ∧ ∀ i, i < 4096 → Z[67 + i]? = some (.int .i32 0) := by
 have hs : wzL.toArray.size = 4163 := by rw [List.size_toArray]; exact wzL_len
 have hz1 : wzL.toArray[1]? = some (.int .i64 0) := by
  rw [List.getElem?_toArray]
  unfold wzL
  rw [List.getElem?_cons_succ, List.getElem?_cons_zero]
 have hr : ∀ k, k < 64 → wzL.toArray[3 + k]? = some (.slice none 0 0) := fun k hk => by rw [List.getElem?_toArray]; exact wzL_row hk
 have ha : ∀ i, i < 4096 → wzL.toArray[67 + i]? = some (.int .i32 0) := fun i hi => by rw [List.getElem?_toArray]; exact wzL_at hi
 generalize wzL.toArray = Y at *
 subst hZ
 refine ⟨by simp [hs], ?_, ?_, ?_, fun k hk => ?_, fun i hi => ?_⟩
 · rw [Array.getElem?_setIfInBounds_ne (by omega), Array.getElem?_setIfInBounds_self_of_lt (by omega)]
 ·
  rw [Array.getElem?_setIfInBounds_ne (by omega), Array.getElem?_setIfInBounds_ne (by omega)]
  exact hz1
 · rw [Array.getElem?_setIfInBounds_self_of_lt (by simp [hs])]
 ·
  rw [Array.getElem?_setIfInBounds_ne (by omega), Array.getElem?_setIfInBounds_ne (by omega)]
  exact hr k hk
 ·
  rw [Array.getElem?_setIfInBounds_ne (by omega), Array.getElem?_setIfInBounds_ne (by omega)]
  exact ha i hi
theorem wpList_build_wheel {w : World} {ops : Array Oper} {rest : List Oper} {o : Oper} {a : Act} {Q : Exit → Act → World → Prop} {Z : Array Value} {G : Int} {bm : Nat}
  (hg : o.guard = none) (x y : Operand) (hop : o.op = Op.build 210 #[(0, x), (2, y)]) (hx : a.eval x = .int .i64 G) (hy : a.eval y = .map (some bm)) (hZ : Z = (wzL.toArray.setIfInBounds 0 (.int .i64 G)).setIfInBounds 2 (.map (some bm)))
  (hK : wpList Tryz.prog ops Q rest (a.put o.dst (.agg Z)) w) : wpList Tryz.prog ops Q (o :: rest) a w := by
 refine wpList_plain hg fun K' hK' => ?_
 have hrun := run_build_wheel G bm w
 rw [← hZ] at hrun
 have he : (execOp a.eval o).run Tryz.prog w = .ok (.value (.agg Z)) w := by
  unfold execOp
  rw [hop]
  dsimp only
  simp only [Sem.run_bind, List.map_toArray, List.map_cons, List.map_nil, hx, hy, hrun, Result.andThen_ok, Sem.run_pure]
 unfold Oper.wp
 rw [he]
 exact hK' _ _ hK
theorem wheel_new (G : Int) (w : World) (h : 1 ≤ G ∧ G ≤ 1024) : Calls Tryz.prog 99 #[.int .i64 G] w fun e w' => ∃ g bm Z, e = .returned (.pointer (some ⟨g, 0, none⟩)) ∧ WhAt w' w.heap.size g bm G 0 [] (fun _ => []) (fun _ => none) (fun _ => 0) (fun _ => 0) Z ∧ Below w.heap.size w w' := by
 have d1 : decide (G < 1) = false := by simp; omega
 have d2 : decide (1024 < G) = false := by simp; omega
 have hmm := @run_makeMap Tryz.prog
 obtain ⟨Z, hZ⟩ : ∃ Z, Z = (wzL.toArray.setIfInBounds 0 (.int .i64 G)).setIfInBounds 2 (.map (some w.heap.size)) := ⟨_, rfl⟩
 obtain ⟨e1, e2, e3, e4, e5, e6⟩ := whZ G w.heap.size Z hZ
 have hb : Below w.heap.size w ((w.alloc (.map #[] 0)).alloc (.cells Z 210)) := below_alloc (below_alloc (Below.refl _ _) _) _
 have hB : Blk ((w.alloc (.map #[] 0)).alloc (.cells Z 210)) (w.heap.size + 1) 210 Z := by
  have := Blk.new (w.alloc (.map #[] 0)) 210 Z
  rwa [World.size_alloc] at this
 have hM : Imap ((w.alloc (.map #[] 0)).alloc (.cells Z 210)) w.heap.size [] := by
  have h0 : Imap (w.alloc (.map #[] 0)) w.heap.size [] := Imap.of (World.ownsMap_made w _ _ _)
  exact h0.call (below_alloc (Below.refl _ _) _)
 replace hZ := Lib.hid hZ
 go_enter Tryz.func99, Tryz.ntmps99
 go_wp2_with (refine wpList_build_wheel rfl _ _ rfl rfl rfl hZ.out ?_)
 go_ret
 exact ⟨w.heap.size + 1, w.heap.size, Z, rfl, ⟨hB, e1, e2, e3, e4, e5, fun k _ => OwnA.nil _ _, (fun k j _ _ _ b hi => by obtain ⟨a, ha, _⟩ := hi; cases ha), e6, hM, by omega, Nat.le_refl _⟩, hb⟩
def setM (cs : Array Value) : Nat → List Value → Array Value
 | _, [] => cs
 | o, v :: r => setM (cs.setIfInBounds o v) (o + 1) r
theorem setM_size : ∀ (vs : List Value) (cs : Array Value) (o : Nat), (setM cs o vs).size = cs.size
 | [], _, _ => rfl
 | v :: r, cs, o => by
  unfold setM
  rw [setM_size r, Array.size_setIfInBounds]
theorem setM_out : ∀ (vs : List Value) (cs : Array Value) (o j : Nat), j < o → (setM cs o vs)[j]? = cs[j]?
 | [], _, _, _, _ => rfl
 | v :: r, cs, o, j, h => by
  unfold setM
  rw [setM_out r _ (o + 1) j (by omega), Array.getElem?_setIfInBounds_ne (by omega)]
theorem setM_in : ∀ (vs : List Value) (cs : Array Value) (o j : Nat), o + vs.length ≤ cs.size → j < vs.length → (setM cs o vs)[o + j]? = vs[j]?
 | v :: r, cs, o, 0, h, _ => by
  simp at h
  unfold setM
  rw [setM_out r _ (o + 1) (o + 0) (by omega), Nat.add_zero, Array.getElem?_setIfInBounds_self_of_lt (by omega)]
  rfl
 | v :: r, cs, o, j + 1, h, hj => by
  simp at h hj
  unfold setM
  rw [show o + (j + 1) = (o + 1) + j by omega, setM_in r _ (o + 1) j (by rw [Array.size_setIfInBounds]; omega) hj]
  rfl
theorem blk_setCells {b : Nat} {t : TypeId} : ∀ (vs : List Value) (o : Nat) {w : World} {cs : Array Value}, Blk w b t cs → Blk (w.setCells b o vs) b t (setM cs o vs)
 | [], _, _, _, h => h
 | v :: r, o, _, _, h => blk_setCells r (o + 1) (h.set_ o v)
theorem chg_setCells {b : Nat} : ∀ (vs : List Value) (o : Nat) (w : World), Chg (· = b) w (w.setCells b o vs)
 | [], _, w => Chg.refl _ w
 | v :: r, o, w => by
  have h1 : Chg (· = b) w (w.setCell ⟨b, o, none⟩ v) := Chg.setCell (F := (· = b)) (p := ⟨b, o, none⟩) (Chg.refl _ w) (fun _ => rfl) v
  exact h1.trans (chg_setCells r (o + 1) _) (fun _ _ h => h)
theorem own_erase {w : World} {base g cap : Nat} {L : List Int} (h : OwnI w base (some ⟨g, 0, none⟩) cap L) {i : Nat} (hi : i < L.length) :
  OwnI (w.setCells g 0 ((L.take i ++ L.drop (i + 1) ++ List.replicate 1 0).map (Value.int .i64))) base (some ⟨g, 0, none⟩) cap (L.eraseIdx i) := by
 rw [List.eraseIdx_eq_take_drop_succ]
 unfold OwnI OwnA at h ⊢
 obtain ⟨_, h2⟩ := h
 rcases h2 with ⟨h2, _⟩ | ⟨g', cap', cur, hv, hb, hh, hc, hm, hs, hx⟩
 · cases h2
 ·
  simp only [Value.slice.injEq, Option.some.injEq, Addr.mk.injEq, and_true, true_and] at hv
  obtain ⟨rfl, rfl⟩ := hv
  have hlen : (L.take i ++ L.drop (i + 1)).length = L.length - 1 := by
   rw [List.length_append, List.length_take, List.length_drop]
   omega
  obtain ⟨E, hE⟩ : ∃ E, L.take i ++ L.drop (i + 1) = E := ⟨_, rfl⟩
  rw [hE] at hlen ⊢
  have hB : Blk w g 3 cur := hh
  have hB2 := blk_setCells ((E ++ List.replicate 1 0).map (Value.int .i64)) 0 hB
  refine ⟨by rw [icell_map, List.length_map, Nat.mul_one], .inr ⟨g, cap, _, rfl, hb, hB2, by omega, hm, by rw [setM_size]; exact hs, ?_⟩⟩
  rw [icell_map]
  apply List.ext_getElem?
  intro j
  rw [List.getElem?_take]
  by_cases hj : j < E.length * 1
  ·
   rw [if_pos hj]
   have hvl : ((E ++ List.replicate 1 0).map (Value.int .i64)).length = E.length + 1 := by simp
   have := setM_in ((E ++ List.replicate 1 0).map (Value.int .i64)) cur 0 j (by rw [hvl]; omega) (by rw [hvl]; omega)
   rw [Nat.zero_add] at this
   rw [Array.getElem?_toList, this, List.getElem?_map, List.getElem?_map, List.getElem?_append_left (by omega)]
  ·
   rw [if_neg hj, List.getElem?_eq_none]
   rw [List.length_map]
   omega
end Go.Proofs.YtohapcacckapoaaGreat
namespace Go.Proofs.YtohapcacckapoaaGreat
open Go Go.RowKit Go.Deep
structure Bk where
 id : Int
 w : Int
 st : Int
 v : Bool
 hi : Int
 lo : Int
abbrev Bk.cells (b : Bk) : List Value := [.int .i64 b.id, .int .i64 b.w, .int .i64 b.st, .bool b.v, .int .u64 b.hi, .int .u64 b.lo]
abbrev Bk.val (b : Bk) : Value := .agg #[.int .i64 b.id, .int .i64 b.w, .int .i64 b.st, .bool b.v, .int .u64 b.hi, .int .u64 b.lo]
def bk0 : Bk := ⟨0, 0, 0, false, 0, 0⟩
def drawB (l : List Bk) (x : Nat) : Bk := if l.length = 0 then bk0 else l.getD (scaleI x l.length).toNat bk0
def drawOk (l : List Bk) : Bool := decide (l.length ≠ 0)
def betterB (M : LM) (a b : Bk) : Bk := if lessB (lmGet M b.id) b.w b.id (lmGet M a.id) a.w a.id then b else a
def bkWf (b : Bk) : Prop := (Lit.int .i64 b.id).wf = true
def foldB (M : LM) (l : List Bk) : Bk := match l with | [] => bk0 | x :: r => r.foldl (betterB M) x
abbrev Bk.arr (b : Bk) : Array Value := #[.int .i64 b.id, .int .i64 b.w, .int .i64 b.st, .bool b.v, .int .u64 b.hi, .int .u64 b.lo]
abbrev OwnB (w : World) (base : Nat) (A : Option Addr) (c : Nat) (l : List Bk) : Prop := OwnA Bk.cells 6 130 w base A c l
def drawnL (l : List Bk) (ds : List Int) : List Bk := if l.length = 0 then [] else ds.map fun d => drawB l d.toNat
def bkAt (l : List Bk) (k : Nat) : Prop := ∀ b, l[k]? = some b → 1 ≤ b.id ∧ b.id ≤ 65535 ∧ 0 ≤ b.w ∧ b.w ≤ 1000 ∧ (0 < k → ∀ a, l[k - 1]? = some a → a.id < b.id)
def bkRight (l : List Bk) : Prop := l.length ≤ 64 ∧ ∀ k, bkAt l k
def RightR (l : List Bk) (w : World) (e : Ending) (w' : World) : Prop := ∃ r n, e = .returned (.bool r) ∧ w' = w.drewN n ∧ (r = true → bkRight l)
def bkLaw (m : Nat) (l : List Bk) : Prop := l.length ≤ m ∧ bkRight l ∧ ∀ b ∈ l, 1 ≤ b.w
def LawR (m : Nat) (l : List Bk) (w : World) (e : Ending) (w' : World) : Prop := ∃ r n, e = .returned (.bool r) ∧ w' = w.drewN n ∧ (r = true → bkLaw m l)
end Go.Proofs.YtohapcacckapoaaGreat
namespace Go.Proofs.YtohapcacckapoaaGreat
open Go Go.RowKit Go.Deep Go.ChangeShapes Go.WideShapes
structure Stp where
 kind : Int
 id : Int
 n : Int
abbrev Stp.cells (s : Stp) : List Value := [.int .i64 s.kind, .int .i64 s.id, .int .i64 s.n]
def stpWf (s : Stp) : Prop := (Lit.int .i64 s.id).wf = true
def lmRun (l : List Stp) : LM := l.foldl (fun M s => lmAdd M s.id s.n) []
structure Pk where
 kd : Int
 sec : Bool
 tu : Tup
 a : Nat
 b : Nat
 pk : Int
 ps : Int
abbrev Pk.cells (x : Pk) : List Value := [.int .i64 x.kd, .bool x.sec, .int .i64 x.tu.p, .bool x.tu.v, .int .u64 x.tu.hi, .int .u64 x.tu.lo, .bool x.tu.v', .int .u64 x.tu.hi', .int .u64 x.tu.lo', .int .i64 x.tu.sp, .int .i64 x.tu.dp, .int .u64 x.a, .int .u64 x.b, .int .i64 x.pk, .int .i64 x.ps]
def pkWf (x : Pk) : Prop := x.tu.hi < 18446744073709551616 ∧ x.tu.lo < 18446744073709551616 ∧ x.tu.hi' < 18446744073709551616 ∧ x.tu.lo' < 18446744073709551616 ∧ x.a < 18446744073709551616 ∧ x.b < 18446744073709551616
@[reducible] def tupFTp : FT := .pair (.int .i64) (.pair adrFT (.pair adrFT (.pair (.int .i64) (.pair (.int .i64) .unit))))
@[reducible] def pkFT : FT := .pair (.int .i64) (.pair .bool (.pair tupFTp (.pair (.int .u64) (.pair (.int .u64) (.pair (.pair (.int .i64) (.pair (.int .i64) .unit)) .unit)))))
def tupOfp (x : tupFTp.Val) : Tup := ⟨x.1, x.2.1.1, x.2.1.2.1.toNat, x.2.1.2.2.1.toNat, x.2.2.1.1, x.2.2.1.2.1.toNat, x.2.2.1.2.2.1.toNat, x.2.2.2.1, x.2.2.2.2.1⟩
def pkOf (x : pkFT.Val) : Pk := ⟨x.1, x.2.1, tupOfp x.2.2.1, x.2.2.2.1.toNat, x.2.2.2.2.1.toNat, x.2.2.2.2.2.1.1, x.2.2.2.2.2.1.2.1⟩
section
variable {H : Type} {enc : TypeId × Value → H}
theorem open_ft24 {P : Program} {t : TypeId} {v : Value} {w : World} {d : DataW H} {p : List MemPlace} (ft : FT) (hfit : fitsT P 24 t ft = true)
  (h : DataW.Trod enc P w 0 (fun _ => true) true t v d p) : ∃ x : ft.Val, Rep w ft x v.cells.toList := by
 obtain ⟨fuel, hf⟩ := h
 exact rep_of_trod 0 _ _ 24 t ft hfit fuel _ _ hf
end
structure TStp where
 kd : Int
 tu : Tup
 sl : Int
 n : Int
 bk : Int
 low : Int
 bt : Int
abbrev TStp.cells (x : TStp) : List Value := [.int .i64 x.kd, .int .i64 x.tu.p, .bool x.tu.v, .int .u64 x.tu.hi, .int .u64 x.tu.lo, .bool x.tu.v', .int .u64 x.tu.hi', .int .u64 x.tu.lo', .int .i64 x.tu.sp, .int .i64 x.tu.dp, .int .i64 x.sl, .int .i64 x.n, .int .i64 x.bk, .int .u64 x.low, .int .i64 x.bt]
def tstpWf (x : TStp) : Prop := 0 ≤ x.low ∧ x.low < 18446744073709551616
@[reducible] def tstpFT : FT := .pair (.int .i64) (.pair tupFTp (.pair (.int .i64) (.pair (.int .i64) (.pair (.int .i64) (.pair (.int .u64) (.pair (.int .i64) .unit))))))
def tstpOf (x : tstpFT.Val) : TStp := ⟨x.1, tupOfp x.2.1, x.2.2.1, x.2.2.2.1, x.2.2.2.2.1, x.2.2.2.2.2.1, x.2.2.2.2.2.2.1⟩
section
variable {H : Type} {enc : TypeId × Value → H}
end
end Go.Proofs.YtohapcacckapoaaGreat
namespace Go.Proofs.YtohapcacckapoaaGreat
open Go Go.RowKit Go.Deep Go.Maps
end Go.Proofs.YtohapcacckapoaaGreat
namespace Go.Proofs.YtohapcacckapoaaGreat
open Go Go.RowKit Go.Deep
def lmSum (M : LM) : Int := (M.map Prod.snd).sum
def lmWf (M : LM) : Prop := ∀ x ∈ M, (Lit.int .i64 x.1).wf = true
end Go.Proofs.YtohapcacckapoaaGreat
namespace Go.Proofs.YtohapcacckapoaaGreat
open Go Go.RowKit Go.Deep Go.Maps Go.ChangeMaps
end Go.Proofs.YtohapcacckapoaaGreat
namespace Go.Proofs.YtohapcacckapoaaGreat
open Go Go.RowKit Go.Deep
theorem LoadAt.alloc {w : World} {g b : Nat} {M : LM} (h : LoadAt w g b M) (o : Obj) : LoadAt (w.alloc o) g b M := h.call (below_alloc (Below.refl _ _) o)
end Go.Proofs.YtohapcacckapoaaGreat
namespace Go.Proofs.YtohapcacckapoaaGreat
open Go Go.RowKit Go.Deep Go.Maps Go.ChangeMaps
def lpStep (M : LM) (s : Stp) : LM := if s.kind = 3 then lmDel M s.id else lmAdd M s.id s.n
def lpRun (l : List Stp) : LM := l.foldl lpStep []
theorem lmDel_wf {M : LM} (h : lmWf M) (id : Int) : lmWf (lmDel M id) := fun x hx => h x (List.mem_filter.1 hx).1
theorem lmAdd_wf {M : LM} (h : lmWf M) {id n : Int} (hi : (Lit.int .i64 id).wf = true) : lmWf (lmAdd M id n) := by
 unfold lmAdd
 split
 · exact h
 ·
  split
  · exact lmDel_wf h id
  ·
   intro x hx
   rcases lmIns_mem hx with rfl | hx
   · exact hi
   · exact lmDel_wf h id x hx
structure LpGood (M : LM) (n : Nat) : Prop where
 pos : lmPos M
 sorted : lmSorted M
 wf : lmWf M
 len : M.length ≤ n
def RLoadQ (w : World) (g o : Nat) (M : LM) : Prop := ∃ t cs A c B d, Blk w g t cs ∧ cs[o]? = some (.slice A M.length c) ∧ cs[o + 1]? = some (.slice B M.length d) ∧ Reads w w.heap.size 1 A (M.map Prod.fst).length ((M.map Prod.fst).map (.int .i64)) ∧ Reads w w.heap.size 1 B (M.map Prod.snd).length ((M.map Prod.snd).map (.int .i64))
def RLoadX (w w' : World) (base g o : Nat) (M : LM) : Prop := ∃ P p Q q, (∀ t cs, Blk w g t cs → Blk w' g t ((cs.setIfInBounds o (.slice P M.length p)).setIfInBounds (o + 1) (.slice Q M.length q))) ∧ Two w' base P p (pre2 M) Q q (post2 M)
end Go.Proofs.YtohapcacckapoaaGreat
namespace Go.Proofs.YtohapcacckapoaaGreat
open Go Go.RowKit Go.Deep
abbrev Trn := Bk × Int
abbrev tcell (x : Trn) : List Value := [.int .i64 x.1.id, .int .i64 x.1.w, .int .i64 x.1.st, .bool x.1.v, .int .u64 x.1.hi, .int .u64 x.1.lo, .int .i64 x.2]
abbrev OwnTn (w : World) (base : Nat) (A : Option Addr) (c : Nat) (l : List Trn) : Prop := OwnA tcell 7 300 w base A c l
def TurnAt (w : World) (base g : Nat) (s : Bool) (ver wt : Int) (ts : List Trn) : Prop :=
 ∃ A c, Blk w g 190 #[.bool true, .bool s, .int .i64 ver, .int .i64 wt, .slice A ts.length c] ∧ OwnTn w base A c ts
theorem TurnAt.call {w w' : World} {base g : Nat} {s : Bool} {ver wt : Int} {ts : List Trn} (h : TurnAt w base g s ver wt ts) (hb : Below w.heap.size w w') : TurnAt w' base g s ver wt ts := by
 obtain ⟨A, c, h1, h2⟩ := h
 exact ⟨A, c, h1.call hb, h2.call hb⟩
def TB (w : World) (b : Nat) : Prop := ∃ cs, Blk w b 190 cs ∨ Blk w b 300 cs
theorem swrr_new (w : World) : Calls Tryz.prog 78 #[] w fun e w' => e = .returned (.pointer (some ⟨w.heap.size, 0, none⟩)) ∧ w' = w.alloc (.cells #[.bool true, .bool false, .int .i64 0, .int .i64 0, .slice none 0 0] 190) := by
 go_enter Tryz.func78, Tryz.ntmps78
 go_wp2_with fail
 go_ret
 exact ⟨rfl, rfl⟩
def sumW (l : List Bk) : Int := (l.map Bk.w).sum
def zeroT (l : List Bk) : List Trn := l.map fun b => (b, 0)
def Ends (fr : Act) (R : World → Prop) : Exit → Act → World → Prop
 | .normal, a, W => a = fr ∧ R W
 | _, _, _ => False
theorem wp_merge {P : Program} {c : Code} {Q : Exit → Act → World → Prop} {a : Act} {w : World} (fr : Act) (R : World → Prop) (h : c.wp P (Ends fr R) a w) (k : ∀ W, R W → Q .normal fr W) : c.wp P Q a w :=
 Code.wp_mono (fun e a' W h1 => by
  cases e <;> first | exact (h1 : False).elim | (obtain ⟨rfl, h2⟩ := h1; exact k W h2)) h
def Ends2 (fr : Option Addr → Nat → Act) (R : Option Addr → Nat → World → Prop) : Exit → Act → World → Prop
 | .normal, a, W => ∃ P p, a = fr P p ∧ R P p W
 | _, _, _ => False
end Go.Proofs.YtohapcacckapoaaGreat
