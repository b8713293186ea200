/- table: the document's table as the code's own state tells it; Close. -/
import Derived.Test.YtmkknjhalcocmaaGreatJ27
namespace Go.Proofs.YtmkknjhalcocmaaGreat
open Go Go.RowKit Go.Deep Go.Maps Go.ChangeMaps

/-- What the document's table holds where the code's holds s. -/
@[reducible] def dOf (n : Nat) (s : TSt) : DTs := ⟨s.now, s.M, s.L, liveE s.E n, fun k => (s.E k).gen, s.lk⟩
theorem dOf_look (n : Nat) (i : Int) (s : TSt) : ({ dOf n s with lk := if lookOk n i then wrap64 ((dOf n s).lk + 1) else (dOf n s).lk } : DTs) = dOf n (lookS n i s) := by
  unfold lookS
  split <;> rfl
theorem dOf_gone {n : Nat} {s : TSt} (hsl : ∀ k : Nat, k < n → (s.E k).sl = k) (i : Nat) : goneD n (dOf n s) i = dOf n (goS n s i) := by
  unfold goneD goS
  have e1 : liveE (updE s.E i (clrS (s.E i))) n = delL (liveE s.E n) i := liveE_del rfl n hsl
  have e2 : (fun k => (updE s.E i (clrS (s.E i)) k).gen) = fun k => if k = i then IntKind.u64.wrap ((s.E i).gen + 1) else (s.E k).gen := by
    funext k
    by_cases e : k = i
    · subst e
      rw [updE_self, if_pos rfl]
      rfl
    · rw [updE_ne _ _ e, if_neg e]
  show DTs.mk _ _ _ _ _ _ = DTs.mk _ _ _ _ _ _
  rw [e1, e2]
theorem dOf_put {n : Nat} {s : TSt} (hsl : ∀ k : Nat, k < n → (s.E k).sl = k) (i : Nat) (hi : i < n) (x : Slt) (hx : x.used = true) (hs : x.sl = i) (hg : x.gen = (s.E i).gen) (M' : LM) : ({ dOf n s with LL := putL (liveE s.E n) x, M := M' } : DTs) = dOf n { s with E := updE s.E i x, M := M' } := by
  have e1 : liveE (updE s.E i x) n = putL (liveE s.E n) x := by
    rw [liveE_put hx hs n hsl, if_pos hi]
  have e2 : (fun k => (updE s.E i x k).gen) = fun k => (s.E k).gen := by
    funext k
    by_cases e : k = i
    · subst e
      rw [updE_self, hg]
    · rw [updE_ne _ _ e]
  show DTs.mk _ _ _ _ _ _ = DTs.mk _ _ _ _ _ _
  rw [e1, e2]
section
variable {w w' w1 w2 : World} {g n : Nat} {b : Int} {c : TCfg} {s : TSt} {X X1 X2 F : Nat → Prop}
theorem ddtab_look (h : DTabP w g n b c (dOf n s) X) (i : Int) : Calls Tryz.prog 49 #[.pointer (some ⟨g, 0, none⟩), .int .i64 i] w fun e w' => e = .returned (.tuple #[]) ∧ DTabP w' g n b c (dOf n (lookS n i s)) X ∧ Chg X w w' := by
  have := dtab_look h i
  rw [dOf_look] at this
  exact this
theorem ddtab_gone (h : DTabP w g n b c (dOf n s) X) (hi : TI n s) (hn : n ≤ 4096) (i : Nat) (hin : i < n) :
    Calls Tryz.prog 57 #[.pointer (some ⟨g, 0, none⟩), .int .i64 (i : Int)] w fun e w' => e = .returned (.tuple #[]) ∧ DTo w w' g n b c (dOf n (goS n s i)) X := by
  have := dtab_gone h (Nat.le_trans (liveE_len _ _) hn) (hi.mlen5 hn) (by have := live_free hi; show s.L.length ≤ 1000000; omega) i hin
  rw [dOf_gone hi.sl] at this
  exact this
theorem DTabP.n4096 {d : DTs} (h : DTabP w g n b c d X) : n ≤ 4096 := by
  obtain ⟨_, _, _, _, _, -, -, -, -, -, -, -, -, -, h⟩ := h.cells
  exact h
set_option maxRecDepth 100000 in
set_option maxHeartbeats 8000000 in
theorem ddtab_close (h : DTabP w g n b c (dOf n s) X) (hti : TI n s) (i : Int) :
    Calls Tryz.prog 28 #[.pointer (some ⟨g, 0, none⟩), .int .i64 i] w fun e w' => e = .returned (.tuple #[(closeV n s i).val, .bool (closeOk n s i)]) ∧ DTo w w' g n b c (dOf n (closeS n s i)) X := by
  have hn := h.n4096
  have hXlt : ∀ y, X y → y < w.heap.size := fun y hy => h.lt hy
  have B1 := Blk.new w 55 slt0.entA
  have hb1 : Below w.heap.size w (w.alloc (.cells slt0.entA 55)) := below_alloc (Below.refl _ _) _
  have h1 := h.call hb1
  have hzz : w.heap.size < (w.alloc (.cells slt0.entA 55)).heap.size := B1.lt
  clear h
  replace B1 := Lib.hid B1
  replace hti := Lib.hid hti
  replace hXlt := Lib.hid hXlt
  replace h1 := Lib.hid h1
  go_enter Tryz.func28, Tryz.ntmps28
  go_upto_region 1 with fail
  change Code.wp _ _ _ _ (w.alloc (.cells slt0.entA 55))
  obtain ⟨r, hr⟩ : ∃ r, w.heap.size = r := ⟨_, rfl⟩
  rw [hr] at B1 hzz
  generalize w.alloc (.cells slt0.entA 55) = w1 at *
  try rw [hr]
  have LK := Lib.hid (ddtab_look h1.out i)
  go_upto_region 2 with (go_at_call 49; (with_reducible refine LK.out.mono ?_); rintro e w2 ⟨rfl, h2, hc2⟩)
  have B2 := B1.out.chg hc2 (fun e => by have := hXlt.out r e; omega)
  have hT2 := XTo.of hc2
  clear LK hc2
  have ht2 := hti.out.look i
  have hn2 := Nat.le_trans (liveE_len (lookS n i s).E n) hn
  replace hT2 := Lib.hid hT2
  by_cases hO : closeOk n s i = true
  · have hV : closeV n s i = s.E i.toNat := by unfold closeV; rw [if_pos hO]
    have hS : closeS n s i = goS n (lookS n i s) i.toNat := by unfold closeS; rw [if_pos hO]
    have hO2 := hO
    unfold closeOk lookOk at hO2
    rw [Bool.and_eq_true, decide_eq_true_eq] at hO2
    obtain ⟨k, rfl⟩ : ∃ k : Nat, i = (k : Int) := ⟨i.toNat, by omega⟩
    rw [Int.toNat_natCast] at hV hS hO2
    have hk : k < n := by omega
    obtain ⟨j, hj, hje, hjn⟩ := live_idx (E := (lookS n k s).E) ht2.sl hk (by rw [lookS_E]; exact hO2.2)
    have AT := Lib.hid (dtab_at h2 (Nat.le_trans hn2 (by omega)) k j hj (by rw [hje, lookS_E]; exact hti.out.sl k hk) hjn)
    obtain ⟨_, _, _, A, q, -, -, c7, -, -, -, hOw, -, -, -⟩ := h2.cells
    obtain ⟨ad, rfl, -, hc⟩ := hOw.reads.rec_at Slt.ent (fun _ => rfl) hj
    obtain ⟨xs, hxs⟩ : ∃ xs, s.E k = xs := ⟨_, rfl⟩
    rw [hje, lookS_E, hxs] at hc
    rw [hxs] at hV
    obtain ⟨ll, hll⟩ : ∃ ll, (liveE (lookS n k s).E n).length = ll := ⟨_, rfl⟩
    dsimp only [dOf] at c7
    have hj2 : j < ll := hll ▸ hj
    rw [hll] at c7
    have GO := Lib.hid fun W (hb : Below w2.heap.size w2 W) => ddtab_gone (h2.call hb) ht2 hn k hk
    rw [← hS] at GO
    have hji : (j : Int) < (ll : Int) := by exact_mod_cast hj2
    have hj0 : ¬ ((j : Int) < 0) := by omega
    have hB3 : Blk (w2.alloc (.cells #[.int .i64 0, .bool false, .int .u64 0, .int .u64 0, .bool false, .int .u64 0, .int .u64 0, .int .i64 0, .int .i64 0, .int .i64 0, .int .i64 0, .int .i64 0, .int .u64 0, .int .i64 0] 55)) w2.heap.size 55 slt0.entA := Blk.new w2 55 slt0.entA
    have hB2 := B2.call (below_alloc (Below.refl w2.heap.size w2) (.cells #[.int .i64 0, .bool false, .int .u64 0, .int .u64 0, .bool false, .int .u64 0, .int .u64 0, .int .i64 0, .int .i64 0, .int .i64 0, .int .i64 0, .int .i64 0, .int .u64 0, .int .i64 0] 55))
    replace hc := Lib.hid hc
    clear hOw hje hjn hj hn2 hll hO2 hS hxs h1
    replace h2 := Lib.hid h2
    replace ht2 := Lib.hid ht2
    replace hV := Lib.hid hV
    replace hO := Lib.hid hO
    replace hB3 := Lib.hid hB3
    replace hB2 := Lib.hid hB2
    replace B2 := Lib.hid B2
    go_upto_region 6 with (first
      | (go_at_call 53; (with_reducible refine AT.out.mono ?_); rintro e w3 ⟨rfl, rfl⟩)
      | (refine wpList_load_entR rfl (.tmp 22) rfl (ad.add (j * 14)) rfl xs hc.out ?_)
      | (refine wpList_store_entB rfl rfl (.tmp 7) (.tmp 23) rfl hB3.out xs rfl rfl ?_))
    obtain ⟨hB4, hc4⟩ := setEnt_blk hB3.out xs
    have hz2 := hT2.out.1.size
    have hr2 : r ≠ w2.heap.size := by omega
    have hle2 : w.heap.size ≤ w2.heap.size := by omega
    have hB4r := hB2.out.chg hc4 (fun e => hr2 e)
    have hb4 : Below w2.heap.size w2 (setEnt (w2.alloc (.cells #[.int .i64 0, .bool false, .int .u64 0, .int .u64 0, .bool false, .int .u64 0, .int .u64 0, .int .i64 0, .int .i64 0, .int .i64 0, .int .i64 0, .int .i64 0, .int .u64 0, .int .i64 0] 55)) w2.heap.size xs) := below_chg (below_alloc (Below.refl _ _) _) hc4 (fun y hy e => by have e2 : y = w2.heap.size := e; omega) (by rw [World.size_alloc]; omega)
    have hT4 := hT2.out.trans (XTo.call hb4)
    have GO4 := GO.out _ hb4
    generalize setEnt (w2.alloc (.cells #[.int .i64 0, .bool false, .int .u64 0, .int .u64 0, .bool false, .int .u64 0, .int .u64 0, .int .i64 0, .int .i64 0, .int .i64 0, .int .i64 0, .int .i64 0, .int .u64 0, .int .i64 0] 55)) w2.heap.size xs = w4 at *
    obtain ⟨r2, hr2e⟩ : ∃ r2, w2.heap.size = r2 := ⟨_, rfl⟩
    rw [hr2e] at hB4 hr2 hz2 hle2
    try rw [hr2e]
    clear GO hB3 hB2 hc4 hb4 hc h2 B2
    replace GO4 := Lib.hid GO4
    replace hB4 := Lib.hid hB4
    replace hB4r := Lib.hid hB4r
    replace hT4 := Lib.hid hT4
    go_upto_region 7 with (go_at_call 57; (with_reducible refine GO4.out.mono ?_); rintro e w5 ⟨rfl, X5, h5, k5⟩)
    have hB5 := hB4.out.chg k5.1 (fun hx => Nat.lt_irrefl _ (Nat.lt_of_lt_of_le (hXlt.out _ hx) hle2))
    have hB5r := hB4r.out.chg k5.1 (fun hx => Nat.lt_irrefl _ (Nat.lt_of_lt_of_le (hXlt.out _ hx) (Nat.le_of_eq hr)))
    have hT5 : DTo w1 w5 g n b c (dOf n (closeS n s k)) X := DTo.mk h5 (hT4.out.trans k5)
    replace hT5 := Lib.hid hT5
    clear GO4 hB4 hB4r h5 k5
    go_wp2_with (first
      | (refine wpList_load_entR rfl (.tmp 7) rfl ⟨r2, 0, none⟩ rfl xs (blk_at hB5) ?_)
      | (refine wpList_store_entB rfl rfl (.tmp 4) (.tmp 27) rfl hB5r xs rfl rfl ?_))
    change bodyPost _ _ _ _ _ (setEnt w5 r xs)
    obtain ⟨B6, hc6⟩ := setEnt_blk hB5r xs
    have hT6 := DTo.fin hXlt.out hb1 hT5.out hc6 (Nat.le_of_eq hr) (by omega)
    generalize setEnt w5 r xs = w6 at *
    clear hB5 hB5r
    obtain ⟨r0, r1, r2, r3, r4, r5, r6, r7, r8, r9, r10, r11, r12, r13, -⟩ := ent_blk B6
    clear B6 hc6
    replace hT6 := Lib.hid hT6
    refine bodyPost_ret (v := .tuple #[xs.val, .bool true]) (by simp [results, Tryz.results28, go_sem, r0, r1, r2, r3, r4, r5, r6, r7, r8, r9, r10, r11, r12, r13]) rfl ?_
    exact ⟨by rw [hV.out, hO.out], hT6.out⟩
  · have hV : closeV n s i = slt0 := by unfold closeV; rw [if_neg hO]
    have hS : closeS n s i = lookS n i s := by unfold closeS; rw [if_neg hO]
    have hO1 : closeOk n s i = false := by simpa using hO
    have AT := Lib.hid (dtab_at_no h2 (Nat.le_trans hn2 (by omega)) i (fun y hy => live_none (E := (lookS n i s).E) ht2.sl (fun hh => hO (by
      unfold closeOk lookOk
      rw [Bool.and_eq_true, decide_eq_true_eq]
      rw [lookS_E] at hh
      exact ⟨⟨hh.1, hh.2.1⟩, hh.2.2⟩)) hy))
    clear hO
    replace hV := Lib.hid hV
    replace hS := Lib.hid hS
    replace hO1 := Lib.hid hO1
    have hT5 : DTo w1 w2 g n b c (dOf n (lookS n i s)) X := DTo.mk h2 hT2.out
    replace hT5 := Lib.hid hT5
    clear h2 ht2 h1
    go_wp2_with (first
      | (go_at_call 53; (with_reducible refine AT.out.mono ?_); rintro e w3 ⟨rfl, rfl⟩)
      | (refine wpList_store_entB rfl rfl (.tmp 4) (.tmp 16) rfl B2 slt0 rfl rfl ?_))
    change bodyPost _ _ _ _ _ (setEnt w2 r slt0)
    obtain ⟨B6, hc6⟩ := setEnt_blk B2 slt0
    have hT6 := DTo.fin hXlt.out hb1 hT5.out hc6 (Nat.le_of_eq hr) (by omega)
    generalize setEnt w2 r slt0 = w6 at *
    clear B2
    obtain ⟨r0, r1, r2, r3, r4, r5, r6, r7, r8, r9, r10, r11, r12, r13, -⟩ := ent_blk B6
    clear B6 hc6
    replace hT6 := Lib.hid hT6
    refine bodyPost_ret (v := .tuple #[(slt0).val, .bool false]) (by simp [results, Tryz.results28, go_sem, r0, r1, r2, r3, r4, r5, r6, r7, r8, r9, r10, r11, r12, r13]) rfl ?_
    exact ⟨by rw [hV.out, hO1.out], by rw [hS.out]; exact hT6.out⟩
end
end Go.Proofs.YtmkknjhalcocmaaGreat
