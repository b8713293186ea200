/- sip: Sum, Hash. -/
import Derived.Test.YtdkcjfcjckpjcaaSipE
namespace Go.Proofs.Ytdkcjfcjckpjcaa
open Go Go.RowKit Go.Deep

def endWord (L C : Int) : Int := bits BinOp.or IntKind.u64 L (IntKind.u64.wrap (IntKind.u64.wrap C * 72057594037927936))
def sipEnd (t : Sip) : Int :=
  let u := siter 4 ⟨t.a, t.b, xorU t.c 255, t.d⟩
  xorU (xorU (xorU u.a u.b) u.c) u.d
theorem sip_alloc (w : World) (t : TypeId) (a b c d : Int) : (w.alloc (.cells #[.int .u64 a, .int .u64 b, .int .u64 c, .int .u64 d] t)).rowIs w.heap.size t 4 (sipF (fun _ => undef) 0 ⟨a, b, c, d⟩) :=
  ⟨_, Blk.new w t _, rfl, fun i hi => by
    have hi' : i = 0 ∨ i = 1 ∨ i = 2 ∨ i = 3 := by omega
    rcases hi' with rfl | rfl | rfl | rfl <;> rfl⟩

set_option maxRecDepth 100000 in
set_option maxHeartbeats 4000000 in
theorem sum_any (g : Nat) (S : Sip) (L : Int) (C : Nat) (w : World) (h : w.rowIs g 177 7 (hasherF S L C)) :
    Calls Try.prog 135 #[.pointer (some ⟨g, 0, none⟩)] w fun e w' => e = .returned (.int .u64 (sipEnd (stake S (endWord L C)))) ∧ Below w.heap.size w w' := by
  obtain ⟨a, b, c, d⟩ := S
  have r0 := h.cell (i := 0) (by omega)
  have r1 := h.cell (i := 1) (by omega)
  have r2 := h.cell (i := 2) (by omega)
  have r3 := h.cell (i := 3) (by omega)
  have r4 := h.cell (i := 4) (by omega)
  simp [hasherF, sipF] at r0 r1 r2 r3 r4
  have hlt := h.lt
  have hA := sip_alloc w 175 a b c d
  have hh := h.alloc (.cells #[.int .u64 a, .int .u64 b, .int .u64 c, .int .u64 d] 175)
  have hb : Below w.heap.size w (w.alloc (.cells #[.int .u64 a, .int .u64 b, .int .u64 c, .int .u64 d] 175)) := (Below.refl _ _).alloc (Nat.le_refl _) _
  go_enter Try.func135, Try.ntmps135
  go_wp2_with fail
  clear r0 r1 r2 r3 r4 h
  generalize (w.alloc (.cells #[.int .u64 a, .int .u64 b, .int .u64 c, .int .u64 d] 175)) = w1 at *
  have r5 := hh.cell (i := 5) (by omega)
  have r6 := hh.cell (i := 6) (by omega)
  simp [hasherF, sipF] at r5 r6
  refine wp_region_still_tail 11 (by kernel_rfl) (by kernel_rfl) ?_
  simp only [List.take_succ_cons, List.take_zero, List.drop_succ_cons, List.drop_zero]
  repeat still_step
  refine wpStill_nil ?_
  change wpList _ _ _ _ _ w1.drew
  have hA1 : w1.drew.rowIs w.heap.size 175 4 (sipF (fun _ => undef) 0 ⟨a, b, c, d⟩) := hA.drew
  have hb1 : Below w.heap.size w w1.drew := ⟨hb.os, hb.tape, hb.output, hb.size, hb.block⟩
  generalize w1.drew = w2 at *
  clear hA hb hh r5 r6
  obtain ⟨m, hm⟩ : ∃ m, bits BinOp.or IntKind.u64 L (IntKind.u64.wrap (IntKind.u64.wrap (C : Int) * 72057594037927936)) = m := ⟨_, rfl⟩
  rw [hm]
  have hm' : endWord L C = m := hm
  clear hm
  have T := take_any w.heap.size 0 175 4 (fun _ => undef) ⟨a, b, c, d⟩ m w2 hA1 (by omega)
  obtain ⟨t, ht⟩ : ∃ t, stake ⟨a, b, c, d⟩ m = t := ⟨_, rfl⟩
  rw [ht] at T
  obtain ⟨ta, tb, tc, td⟩ := t
  replace ht := Lib.hid ht
  replace hm' := Lib.hid hm'
  replace T := Lib.hid T
  clear hA1
  go_wp2_with (go_at_call 146; refine T.out.mono ?_; rintro e w3 ⟨rfl, h3, hc3⟩; have r2 := h3.cell (i := 2) (by omega); have q2 := h3.frozen 2; simp [sipF] at r2)
  have hb3 : Below w.heap.size w w3 := below_chg hb1 hc3 (fun b h e => by omega) hb1.size
  obtain ⟨y, hy⟩ : ∃ y, bits BinOp.xor IntKind.u64 tc 255 = y := ⟨_, rfl⟩
  rw [hy]
  have h4 : (w3.setCell ⟨w.heap.size, 2, none⟩ (.int .u64 y)).rowIs w.heap.size 175 4 (sipF (fun _ => undef) 0 ⟨ta, tb, y, td⟩) := sip_setc h3 y
  have hb4 : Below w.heap.size w (w3.setCell ⟨w.heap.size, 2, none⟩ (.int .u64 y)) := hb3.setCell (Nat.le_refl _) _
  generalize (w3.setCell ⟨w.heap.size, 2, none⟩ (.int .u64 y)) = w4 at *
  obtain ⟨u, hu⟩ : ∃ u, siter 4 ⟨ta, tb, y, td⟩ = u := ⟨_, rfl⟩
  have M := mix_any w.heap.size 0 175 4 (fun _ => undef) ⟨ta, tb, y, td⟩ 4 w4 h4 (by omega) (by omega) (by omega)
  rw [hu] at M
  obtain ⟨ua, ub, uc, ud⟩ := u
  have hE : sipEnd ⟨ta, tb, tc, td⟩ = xorU (xorU (xorU ua ub) uc) ud := by
    show xorU (xorU (xorU (siter 4 ⟨ta, tb, bits BinOp.xor IntKind.u64 tc 255, td⟩).a (siter 4 ⟨ta, tb, bits BinOp.xor IntKind.u64 tc 255, td⟩).b) (siter 4 ⟨ta, tb, bits BinOp.xor IntKind.u64 tc 255, td⟩).c) (siter 4 ⟨ta, tb, bits BinOp.xor IntKind.u64 tc 255, td⟩).d = _
    rw [hy, hu]
  replace hE := Lib.hid hE
  clear hu hy h3 hc3 hb1 hb3 r2 q2 T h4
  go_wp2_with fail
  refine M.mono ?_
  rintro e w5 ⟨rfl, h5, hc5⟩
  have hb5 : Below w.heap.size w w5 := below_chg hb4 hc5 (fun b h e => by omega) hb4.size
  have r0 := h5.cell (i := 0) (by omega)
  have r1 := h5.cell (i := 1) (by omega)
  have r2 := h5.cell (i := 2) (by omega)
  have r3 := h5.cell (i := 3) (by omega)
  simp [sipF] at r0 r1 r2 r3
  clear M hc5 hb4
  go_wp2_with fail
  go_ret
  rw [hm'.out, ht.out, hE.out]
  exact ⟨rfl, hb5⟩

def sipHash (a b : Int) (x : ByteArray) : Int := sipEnd (stake (hrun x (sip0 a b) x.size).1 (endWord (hrun x (sip0 a b) x.size).2 x.size))
theorem hash_any (a b : Int) (x : ByteArray) (w : World) (hx : x.size ≤ 1000000) : Calls Try.prog 122 #[.agg #[.int .u64 a, .int .u64 b], .string x] w fun e w' => e = .returned (.int .u64 (sipHash a b x)) ∧ Below w.heap.size w w' := by
  obtain ⟨R, hR⟩ : ∃ R, hrun x (sip0 a b) x.size = R := ⟨_, rfl⟩
  unfold sipHash
  rw [hR]
  obtain ⟨S, L⟩ := R
  replace hR := Lib.hid hR
  go_enter Try.func122, Try.ntmps122
  go_wp2_with fail
  refine (new_sip a b _).mono ?_
  rintro e w1 ⟨g, rfl, h1, hb1, hg1⟩
  have hz : w.heap.size < g := by simp at hg1; omega
  have hb : Below w.heap.size w w1 := (by repeat (first | exact Below.refl _ _ | assumption | refine below_alloc ?_ _ | refine below_chain (by assumption) ?_ | refine below_call2 (by assumption) ?_ (by first | omega | (simp; done) | (simp; omega) | (simp [World.setCell]; omega)) | refine below_drewN ?_ _ | refine Below.drew ?_ | refine Below.alloc ?_ (by first | omega | (simp; done) | (simp; omega) | (simp [World.setCell]; omega)) _ | refine Below.setCell ?_ (by first | omega | (simp; done) | (simp; omega) | (simp [World.setCell]; omega)) _))
  go_wp2_with fail
  refine (write_any g (sip0 a b) x w1 h1 hx).mono ?_
  rintro e w2 ⟨rfl, h2, hc2⟩
  rw [hR.out] at h2
  have hb2 := below_chg hb hc2 (fun b h e => by omega) hb.size
  go_wp2_with fail
  refine (sum_any g S L x.size w2 h2).mono ?_
  rintro e w3 ⟨rfl, hb3⟩
  have hb4 := below_call hb2 hb2.size hb3
  go_wp2_with fail
  go_ret
  exact ⟨rfl, hb4⟩
end Go.Proofs.Ytdkcjfcjckpjcaa
