/- shift: Drain, the code's and the document's. -/
import Derived.Test.YtkpkjpdhlmjchaaShiftV
import Derived.Test.YtkpkjpdhlmjchaaShiftW
namespace Go.Proofs.Ytkpkjpdhlmjchaa
open Go Go.RowKit Go.Deep

def dr (l : List Bk) (id : Int) : List Bk := l.filter fun b => b.id != id
def drE (m : Int) (l : List Bk) (id : Int) : Int := if hasB l id then shE m l (dr l id) else 13
def drV (ka kb m : Int) (l : List Bk) (id : Int) : Mv := if hasB l id then shV ka kb m l (dr l id) else ⟨0, 0, 0, 0⟩
theorem dr_ok {m : Int} {l : List Bk} (h : ShOk m l l) (id : Int) : ShOk m l (dr l id) :=
  ⟨h.size, h.la, Nat.le_trans (List.length_filter_le _ _) h.la, h.ia, fun x hx => h.ia x (List.mem_filter.1 hx).1⟩
theorem own_row {w : World} {base : Nat} {A : Option Addr} {c : Nat} {l : List Bk} (h : OwnB w base A c l) (h0 : 0 < l.length) : ∃ g, A = some ⟨g, 0, none⟩ ∧ RowB w base g l.length c l ∧ l.length ≤ c ∧ c ≤ 9223372036854775807 := by
  rcases h.2 with ⟨h1, h2⟩ | ⟨g, cap, cur, h1, h2, h3, h4, h5, h6⟩
  · omega
  · simp only [Value.slice.injEq] at h1
    obtain ⟨rfl, -, rfl⟩ := h1
    unfold maxLen at h5
    exact ⟨g, rfl, ⟨rfl, h⟩, h4, h5⟩

set_option maxRecDepth 100000 in
set_option maxHeartbeats 4000000 in
theorem drain_any (ver : Int) (l : List Bk) (A : Option Addr) (c : Nat) (id ka kb m : Int) (w : World) (hr : Reads w w.heap.size 6 A l.length (l.flatMap Bk.cells)) (h : ShOk m l l) :
    Calls Try.prog 15 #[.agg #[.int .i64 ver, .slice A l.length c], .int .i64 id, .agg #[.int .u64 ka, .int .u64 kb], .int .i64 m] w fun e w' => e = .returned (.tuple #[.agg (drV ka kb m l id).arr, .int .i64 (drE m l id)]) ∧ Below w.heap.size w w' := by
  obtain ⟨w0, hw0⟩ : ∃ w0, w0 = (((w.alloc (.cells #[.int .i64 ver, .slice A l.length c] 36)).alloc (.cells #[.int .i64 id] 3)).alloc (.cells #[.int .u64 ka, .int .u64 kb] 25)).alloc (.cells (mvArr 0 0 0 0) 31) := ⟨_, rfl⟩
  have hb0 : Below w.heap.size w w0 := hw0 ▸ below_alloc (below_alloc (below_alloc (below_alloc (Below.refl _ _) _) _) _) _
  have S0 : Blk w0 w.heap.size 36 #[.int .i64 ver, .slice A l.length c] := hw0 ▸ (((Blk.new w _ _).alloc _).alloc _).alloc _
  have I0 : Blk w0 (w.heap.size + 1) 3 #[.int .i64 id] := by
    have := Blk.new (w.alloc (.cells #[.int .i64 ver, .slice A l.length c] 36)) 3 #[.int .i64 id]
    simp only [World.size_alloc] at this
    rw [hw0]; exact (this.alloc _).alloc _
  have K0 : Blk w0 (w.heap.size + 1 + 1) 25 #[.int .u64 ka, .int .u64 kb] := by
    have := Blk.new ((w.alloc (.cells #[.int .i64 ver, .slice A l.length c] 36)).alloc (.cells #[.int .i64 id] 3)) 25 #[.int .u64 ka, .int .u64 kb]
    simp only [World.size_alloc] at this
    rw [hw0]; exact this.alloc _
  have R0 : Blk w0 (w.heap.size + 1 + 1 + 1) 31 (mvArr 0 0 0 0) := by
    have := Blk.new (((w.alloc (.cells #[.int .i64 ver, .slice A l.length c] 36)).alloc (.cells #[.int .i64 id] 3)).alloc (.cells #[.int .u64 ka, .int .u64 kb] 25)) 31 (mvArr 0 0 0 0)
    simp only [World.size_alloc] at this
    rw [hw0]; exact this
  have HS := fun W (hb : Below w.heap.size w W) => elig_has ver l A c id W ((hr.below hb).more hb.size) (by have := h.la; omega)
  have hsz : w.heap.size + 1 + 1 + 1 < w0.heap.size := R0.lt
  obtain ⟨t, ht⟩ : ∃ t, hasB l id = t := ⟨_, rfl⟩
  rw [ht] at HS
  replace HS := Lib.hid HS
  cases t
  · have e1 : drE m l id = 13 := by unfold drE; rw [ht]; rfl
    have e2 : drV ka kb m l id = ⟨0, 0, 0, 0⟩ := by unfold drV; rw [ht]; rfl
    rw [e1, e2]
    clear e1 e2 ht hr h
    have s0 := S0.cell 0
    have s1 := S0.cell 1
    have i0 := I0.cell 0
    simp only [List.getElem?_toArray, List.getElem?_cons_zero, List.getElem?_cons_succ] at s0 s1 i0
    go_enter Try.func15, Try.ntmps15
    go_upto_region 1 with (fail)
    rw [← hw0]
    clear hw0
    go_wp2_with fail
    refine (HS.out _ hb0).mono ?_
    rintro e w1 ⟨rfl, hb1⟩
    have R1 := R0.call hb1
    have hb := below_chain hb1 hb0
    clear hb1 S0 I0 K0 R0 s0 s1 i0 HS hb0
    obtain ⟨⟨b0, b1, b2, b3⟩, s0, s1, s2, s3⟩ := R1.four
    have hfin := blk_set4 (a0 := .int .i64 0) (a1 := .int .i64 0) (a2 := .int .i64 0) (a3 := .int .i64 0) R1
    obtain ⟨⟨f0, f1, f2, f3⟩, -⟩ := hfin.four
    clear hfin R1
    go_wp2_with fail
    refine bodyPost_ret (v := .tuple #[.agg (mvArr 0 0 0 0), .int .i64 13]) (by simp [results, Try.results15, go_sem, f0, f1, f2, f3]) rfl ?_
    exact ⟨rfl, (((hb.setCell (by simp; omega) _).setCell (by simp; omega) _).setCell (by simp; omega) _).setCell (by simp; omega) _⟩
  · have e1 : drE m l id = shE m l (dr l id) := by unfold drE; rw [ht]; rfl
    have e2 : drV ka kb m l id = shV ka kb m l (dr l id) := by unfold drV; rw [ht]; rfl
    rw [e1, e2]
    have h0 : 0 < l.length := by
      cases l with
      | nil => simp [hasB] at ht
      | cons x l => simp
    have CL := fun W (hb : Below w.heap.size w W) => clone_bk A c l W ((hr.below hb).more hb.size) (by have := h.la; omega)
    have OF := fun (g c2 : Nat) W (hb : Below w.heap.size w W) (hd : Reads W W.heap.size 6 (some ⟨g, 0, none⟩) (dr l id).length ((dr l id).flatMap Bk.cells)) => shiftof_any ver ver l A c (dr l id) (some ⟨g, 0, none⟩) c2 ka kb m W ((hr.below hb).more hb.size) hd (dr_ok h id)
    have hl := h.la
    obtain ⟨E, hE⟩ : ∃ E, shE m l (dr l id) = E := ⟨_, rfl⟩
    obtain ⟨V, hV⟩ : ∃ V, shV ka kb m l (dr l id) = V := ⟨_, rfl⟩
    rw [hE, hV] at OF ⊢
    have DL := fun base g cap W hR hgc hc h1 h2 => delete_bk base g cap (w.heap.size + 1) id l W hR hgc hc ht (by omega) h1 h2
    replace CL := Lib.hid CL
    replace OF := Lib.hid OF
    replace DL := Lib.hid DL
    clear e1 e2 ht hr h hE hV
    have s0 := S0.cell 0
    have s1 := S0.cell 1
    have i0 := I0.cell 0
    simp only [List.getElem?_toArray, List.getElem?_cons_zero, List.getElem?_cons_succ] at s0 s1 i0
    go_enter Try.func15, Try.ntmps15
    go_upto_region 1 with (fail)
    rw [← hw0]
    clear hw0
    go_wp2_with fail
    refine (HS.out _ hb0).mono ?_
    rintro e w1 ⟨rfl, hb1⟩
    have S1 := S0.call hb1
    have I1 := I0.call hb1
    have K1 := K0.call hb1
    have R1 := R0.call hb1
    have hbA := below_chain hb1 hb0
    have hs1 := hb1.size
    clear hb1 S0 I0 K0 R0 s0 s1 i0 HS hb0
    have s0 := S1.cell 0
    have s1 := S1.cell 1
    simp only [List.getElem?_toArray, List.getElem?_cons_zero, List.getElem?_cons_succ] at s0 s1
    go_wp2_with fail
    refine (CL.out _ hbA).mono ?_
    rintro e w2 ⟨A', c', rfl, hO, hb2⟩
    obtain ⟨g, rfl, hRow, hc1, hc2⟩ := own_row hO h0
    have hgb := hRow.blk
    have S2 := S1.call hb2
    have I2 := I1.call hb2
    have K2 := K1.call hb2
    have R2 := R1.call hb2
    have hbB := below_chain hb2 hbA
    have i0 := I2.cell 0
    simp only [List.getElem?_toArray, List.getElem?_cons_zero] at i0
    have D2 := DL.out _ g c' w2 hRow (by omega) i0 hc1 hc2
    replace D2 := Lib.hid D2
    clear hb2 hbA S1 I1 K1 R1 s0 s1 CL DL hO hRow
    go_wp2_with fail
    refine D2.out.mono ?_
    rintro e w3 ⟨c2, rfl, hrd, hb3⟩
    have hlo : ∀ {b : Nat} {t : TypeId} {cs : Array Value}, b < w1.heap.size → Blk w2 b t cs → Blk w3 b t cs := fun hb h => (hb3.block _ hb).trans h
    have S3 := hlo (by omega) S2
    have K3 := hlo (by omega) K2
    have R3 := hlo (by omega) R2
    have hbC : Below w.heap.size w w3 := hbB.trans (hb3.mono (by omega))
    clear hlo S2 I2 K2 R2 hbB hb3 i0 D2
    have s0 := S3.cell 0
    have s1 := S3.cell 1
    have k0 := K3.cell 0
    have k1 := K3.cell 1
    simp only [List.getElem?_toArray, List.getElem?_cons_zero, List.getElem?_cons_succ] at s0 s1 k0 k1
    have O3 := OF.out g c2 w3 hbC hrd
    replace O3 := Lib.hid O3
    clear OF hrd
    go_wp2_with fail
    refine O3.out.mono ?_
    rintro e w4 ⟨rfl, hb4⟩
    have R4 := R3.call hb4
    have hb := below_chain hb4 hbC
    clear S3 K3 R3 s0 s1 k0 k1 hbC hb4 O3
    obtain ⟨⟨b0, b1, b2, b3⟩, s0, s1, s2, s3⟩ := R4.four
    have hfin := blk_set4 (a0 := .int .i64 V.a) (a1 := .int .i64 V.b) (a2 := .int .i64 V.c) (a3 := .int .i64 V.d) R4
    obtain ⟨⟨f0, f1, f2, f3⟩, -⟩ := hfin.four
    clear hfin R4
    go_wp2_with fail
    refine bodyPost_ret (v := .tuple #[.agg V.arr, .int .i64 E]) (by simp [results, Try.results15, go_sem, f0, f1, f2, f3]) rfl ?_
    exact ⟨rfl, (((hb.setCell (by simp; omega) _).setCell (by simp; omega) _).setCell (by simp; omega) _).setCell (by simp; omega) _⟩
end Go.Proofs.Ytkpkjpdhlmjchaa
