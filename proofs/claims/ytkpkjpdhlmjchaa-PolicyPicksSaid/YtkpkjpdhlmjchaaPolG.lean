/- policy: what each policy picks of one backend, and of none. -/
import Derived.Test.YtkpkjpdhlmjchaaPolE
import Derived.Test.YtkpkjpdhlmjchaaPolF
import Derived.Test.YtkpkjpdhlmjchaaLeastB
namespace Go.Proofs.Ytkpkjpdhlmjchaa
open Go Go.RowKit Go.Deep

theorem swT_one (b : Bk) (v : Int) : swT false 0 v 0 [] [b] = (sumW [b], [(b, 0)]) := by
  unfold swT
  rw [if_neg (by simp)]
  rfl
theorem pickId_one (b : Bk) : pickId [(b, 0)] = b.id := by
  simp [pickId, bestI, bestN, addT, trn0]
theorem drawn_one (b : Bk) (M : LM) (x y : Nat) (hx : x < 18446744073709551616) (hy : y < 18446744073709551616) : (foldB M (drawnL [b] [(x : Int), (y : Int)])).id = b.id := by
  have h1 : drawB [b] x = b := by simpa using drawB_mem (l := [b]) hx (by simp) (by simp)
  have h2 : drawB [b] y = b := by simpa using drawB_mem (l := [b]) hy (by simp) (by simp)
  unfold drawnL
  rw [if_neg (by simp)]
  simp only [List.map_cons, List.map_nil, Int.toNat_natCast, h1, h2]
  simp [foldB, betterB]
theorem sized_four {m : Int} (h : sizedB m = true) : ∃ k : Nat, m = k ∧ (k = 13 ∨ k = 251 ∨ k = 1021 ∨ k = 4093) := by
  unfold sizedB at h
  simp at h
  rcases h with rfl | rfl | rfl | rfl
  · exact ⟨13, rfl, by omega⟩
  · exact ⟨251, rfl, by omega⟩
  · exact ⟨1021, rfl, by omega⟩
  · exact ⟨4093, rfl, by omega⟩
theorem polOk_parts {k s : Int} (h : polOk k s = true) : (k = 1 ∨ k = 2 ∨ k = 3 ∨ k = 4) ∧ sizedB s = true := by
  unfold polOk at h
  simp only [Bool.and_eq_true, decide_eq_true_eq] at h
  exact ⟨by omega, h.2⟩
theorem tb_not {w : World} {g : Nat} {kind size ka kb : Int} {tn tp : Value} {so : Bool} {ver : Int} (h : ChBlk w g kind size ka kb tn tp so ver) : ¬ TB w g := by
  rintro ⟨cs, h1 | h1⟩
  · exact Blk.ne_ h h1 (by decide) rfl
  · exact Blk.ne_ h h1 (by decide) rfl
theorem tb_back {w W : World} (hb : Below w.heap.size w W) {b : Nat} (h : b < w.heap.size) (k : TB W b) : TB w b := by
  obtain ⟨cs, k⟩ := k
  refine ⟨cs, ?_⟩
  rcases k with k | k
  · exact .inl ((hb.block b h).symm.trans k)
  · exact .inr ((hb.block b h).symm.trans k)
set_option maxHeartbeats 2000000 in
theorem swrr_pickB (base g : Nat) (s : Bool) (v0 wt0 : Int) (ts0 : List Trn) (ver : Int) (l : List Bk) (A : Option Addr) (c : Nat) (B : Int) (w : World) (h : TurnAt w base g s v0 wt0 ts0) (hbase : base ≤ w.heap.size) (hgb : base ≤ g) (hok : TrnOk wt0 ts0 B) (hB : 0 ≤ B) (hB2 : B ≤ 1000000000000)
    (hr : Reads w w.heap.size 6 A l.length (l.flatMap Bk.cells)) (hag : ∀ a, A = some a → ¬ a.block = g) (hl : l.length ≤ 1000) (hw : ∀ b ∈ l, 0 ≤ b.w ∧ b.w ≤ 1000) :
    Calls Try.prog 89 #[.pointer (some ⟨g, 0, none⟩), .agg #[.int .i64 ver, .slice A l.length c]] w fun e w' => e = .returned (.tuple #[.int .i64 (pickId (swT s v0 ver wt0 ts0 l).2), .bool (decide (0 < (swT s v0 ver wt0 ts0 l).2.length))]) ∧
      TurnAt w' base g true ver (swT s v0 ver wt0 ts0 l).1 (pickTs (swT s v0 ver wt0 ts0 l).1 (swT s v0 ver wt0 ts0 l).2) ∧ Chg (fun b => TB w b ∧ base ≤ b) w w' := by
  have hT := swT_ok (s := s) (v0 := v0) (ver := ver) hok hl hw hB
  obtain ⟨P0, p0, hX, hO⟩ := id h
  have hg : TB w g ∧ base ≤ g := ⟨⟨_, .inl hX⟩, hgb⟩
  refine swrr_pick_core base g s v0 wt0 _ ver _ _ l A c (fun b => TB w b ∧ base ≤ b) w hX ?_ hT.1 (fun x hx => by have := hT.2.1 x hx; omega) hT.2.2
  intro W hb
  by_cases hc : s = true ∧ v0 = ver
  · have e : swT s v0 ver wt0 ts0 l = (wt0, ts0) := by unfold swT; rw [if_pos hc]
    rw [e]
    obtain ⟨rfl, rfl⟩ := hc
    refine (swrr_set_same base g v0 wt0 ts0 l A c W (h.call hb)).mono ?_
    rintro e w' ⟨rfl, hb2⟩
    refine ⟨rfl, ⟨P0, p0, (hX.call hb).call hb2, (hO.call hb).call hb2, fun b hi _ => ⟨own_tb hO hi, (hO.block hi).1⟩⟩, Chg.of_below (below_chain hb2 hb)⟩
  · have e : swT s v0 ver wt0 ts0 l = (sumW l, zeroT l) := by unfold swT; rw [if_neg hc]
    rw [e]
    refine (swrr_set_new base g s v0 wt0 ts0 ver l A c W (h.call hb) hc ((hr.below hb).more hb.size) hag hl hw).mono ?_
    rintro e w' ⟨rfl, ⟨P, p, hX2, hO2⟩, hc2⟩
    have hsz := hb.size
    refine ⟨rfl, ⟨P, p, hX2, own_mono hO2 (by omega), fun b hi hlt => ?_⟩, ?_⟩
    · have := (hO2.block hi).1
      omega
    · exact (Chg.of_below hb).trans hc2 (fun b _ hb => by show TB w b ∧ base ≤ b; exact hb ▸ hg)
/-- The blocks that a chooser's pick may change. -/
def CB (w : World) (base g : Nat) (b : Nat) : Prop := (TB w b ∧ base ≤ b) ∨ b = g

theorem one_pick {w : World} {g gt gl bl base : Nat} {kind size ka kb : Int} (M : LM) (b : Bk) (v1 : Int) (A : Option Addr) (c : Nat) (t : Tup) (x y : Nat) (hx : x < 18446744073709551616) (hy : y < 18446744073709551616)
    (hC : ChBlk w g kind size ka kb (.pointer (some ⟨gt, 0, none⟩)) (.pointer none) false 0) (hT : TurnAt w base gt false 0 0 []) (hbase : base ≤ w.heap.size) (hgb : base ≤ gt) (hL : LoadAt w gl bl M) (hr : Reads w w.heap.size 6 A 1 b.cells) (hag : ∀ a, A = some a → ¬ a.block = gt)
    (hp : polOk kind size = true) (hid : 1 ≤ b.id ∧ b.id ≤ 65535) (hw : 0 ≤ b.w ∧ b.w ≤ 1000) (hwf : bkWf b) :
    Calls Try.prog 41 #[.pointer (some ⟨g, 0, none⟩), .agg #[.int .i64 v1, .slice A 1 c], .pointer (some ⟨gl, 0, none⟩), t.val, .int .u64 x, .int .u64 y] w fun e w' =>
      e = .returned (.tuple #[.int .i64 b.id, .int .i64 0]) ∧ (∃ tp so ver, ChBlk w' g kind size ka kb (.pointer (some ⟨gt, 0, none⟩)) tp so ver) ∧ Chg (CB w base g) w w' := by
  have hr1 : Reads w w.heap.size 6 A ([b] : List Bk).length (([b] : List Bk).flatMap Bk.cells) := by simpa using hr
  obtain ⟨hk, hs⟩ := polOk_parts hp
  rcases hk with rfl | rfl | rfl | rfl
  · refine (polpick_rr (fun W w' => Chg (fun b => TB W b ∧ base ≤ b) W w') v1 A 1 c t (.pointer (some ⟨gl, 0, none⟩)) x y b.id hC (by omega) ?_).mono ?_
    · intro W hb
      have hT' := hT.call hb
      have := swrr_pickB base gt false 0 0 [] v1 [b] A c 0 W hT' (by have := hb.size; omega) hgb ⟨by simp, by simp, by omega, by omega⟩ (by omega) (by omega) ((hr1.below hb).more hb.size) hag (by simp) (by simpa using hw)
      refine this.mono ?_
      rintro e w' ⟨rfl, -, h3⟩
      rw [swT_one, pickId_one]
      exact ⟨⟨_, rfl⟩, h3⟩
    · rintro e w' ⟨rfl, W, hb, hq⟩
      refine ⟨rfl, ⟨_, _, _, (hC.call hb).chg hq (fun k => tb_not (hC.call hb) k.1)⟩, ?_⟩
      exact (Chg.of_below (F := CB w base g) hb).trans hq (fun i hi h => .inl ⟨tb_back hb hi h.1, h.2⟩)
  · refine (polpick_ll (fun W w' => Below W.heap.size W w') v1 A 1 c t (.pointer (some ⟨gl, 0, none⟩)) x y b.id hC (by omega) ?_).mono ?_
    · intro W hb
      refine (least_pick v1 [b] A c gl bl M W ((hr1.below hb).more hb.size) (by simp) (hL.call hb) (by simpa using hwf)).mono ?_
      rintro e w' ⟨rfl, h⟩
      exact ⟨⟨_, rfl⟩, h⟩
    · rintro e w' ⟨rfl, W, hb, hq⟩
      have hb2 := below_chain hq hb
      exact ⟨rfl, ⟨_, _, _, hC.call hb2⟩, Chg.of_below hb2⟩
  · refine (polpick_tc (fun W w' => Below W.heap.size W w') v1 A 1 c t (.pointer (some ⟨gl, 0, none⟩)) x y b.id hC (by omega) ?_).mono ?_
    · intro W hb
      refine (two_pick v1 [b] A c gl bl M x y W ((hr1.below hb).more hb.size) (by simp) hx hy (hL.call hb) (by simpa using hwf)).mono ?_
      rintro e w' ⟨rfl, h⟩
      rw [drawn_one b M x y hx hy]
      exact ⟨⟨_, rfl⟩, h⟩
    · rintro e w' ⟨rfl, W, hb, hq⟩
      have hb2 := below_chain hq hb
      exact ⟨rfl, ⟨_, _, _, hC.call hb2⟩, Chg.of_below hb2⟩
  · obtain ⟨m, rfl, hm⟩ := sized_four hs
    refine (polpick_ha (fun W w' => (∃ gT, ChBlk w' g 4 m ka kb (.pointer (some ⟨gt, 0, none⟩)) (.pointer (some ⟨gT, 0, none⟩)) true v1) ∧ Chg (· = g) W w') v1 A 1 c t (.pointer (some ⟨gl, 0, none⟩)) x y b.id 0 hC (by omega) ?_).mono ?_
    · intro W hb
      have hN := fun W' (hb' : Below W.heap.size W W') => new_some4 v1 [b] A c ka kb m W' ((hr1.below (below_chain hb' hb)).more (below_chain hb' hb).size) hm (by simp) (by simp; omega) (by simpa using hid)
      have e1 : tableOf ka kb m ([b].map Bk.id) = List.replicate m b.id := tableOf_one4 hm (show b.id ≠ 0 by omega)
      rw [e1] at hN
      refine (polhash_new v1 A 1 c t (List.replicate m b.id) (hC.call hb) (by omega) (by simp; omega) (by simp; omega) (fun W' hb' => (hN W' hb').mono ?_)).mono ?_
      · rintro e w' ⟨gT, rfl, h1, h2, h3⟩
        exact ⟨⟨gT, rfl, h1.more hb'.size, h2⟩, h3⟩
      · rintro e w' ⟨rfl, ⟨gT, -, h2, -⟩, h4⟩
        rw [pickI_one ka kb m b.id t (by omega) (by omega)]
        exact ⟨rfl, ⟨gT, h2⟩, h4⟩
    · rintro e w' ⟨rfl, W, hb, ⟨gT, h1⟩, h2⟩
      exact ⟨rfl, ⟨_, _, _, h1⟩, (Chg.of_below (F := CB w base g) hb).trans h2 (fun i hi h => .inr h)⟩
/-! Of none. -/
theorem none_pick {w : World} {g gt : Nat} {kind size ka kb : Int} {tp : Value} {so : Bool} {ver : Int} (v1 : Int) (A : Option Addr) (c : Nat) (t : Tup) (lv : Value) (x y : Int)
    (hC : ChBlk w g kind size ka kb (.pointer (some ⟨gt, 0, none⟩)) tp so ver) :
    Calls Try.prog 41 #[.pointer (some ⟨g, 0, none⟩), .agg #[.int .i64 v1, .slice A 0 c], lv, t.val, .int .u64 x, .int .u64 y] w fun e w' => e = .returned (.tuple #[.int .i64 0, .int .i64 8]) ∧ Below w.heap.size w w' :=
  polpick_err _ v1 A 0 c t lv x y 8 (by decide) fun _ hb => ready_any v1 A 0 c (hC.call hb)
theorem none_hash {w : World} {g gt : Nat} {kind size ka kb : Int} {tp : Value} {so : Bool} {ver : Int} (v1 : Int) (A : Option Addr) (c : Nat) (t : Tup)
    (hC : ChBlk w g kind size ka kb (.pointer (some ⟨gt, 0, none⟩)) tp so ver) :
    Calls Try.prog 42 #[.pointer (some ⟨g, 0, none⟩), .agg #[.int .i64 v1, .slice A 0 c], t.val] w fun e w' => e = .returned (.tuple #[.int .i64 0, .int .i64 8]) ∧ Below w.heap.size w w' :=
  polhash_err _ v1 A 0 c t 8 (by decide) fun _ hb => ready_any v1 A 0 c (hC.call hb)
end Go.Proofs.Ytkpkjpdhlmjchaa
