/- sip: Write. sip: Sum, Hash. cloakroomref12: Hash. sip: words as sums. sip: the program's hash is the document's. sip: the last word; the program's hash is the document's. sip: a hash is a number of 64 bits. -/
import Derived.Test.YtnmmjchhinfbpaaSipP
namespace Go.Proofs.Ytnmmjchhinfbpaa
open Go Go.RowKit Go.Deep

def lastS (r : Nat) (L : Int) (c : Nat) : Int := bits BinOp.or IntKind.u64 L (IntKind.u64.wrap (IntKind.u64.wrap (c : Int) * 2 ^ (8 * r)))
def hbyte (k : Nat) (st : Sip × Int) (c : Nat) : Sip × Int := if (k + 1) % 8 = 0 then (stake st.1 (lastS (k % 8) st.2 c), 0) else (st.1, lastS (k % 8) st.2 c)
def byteAt (x : ByteArray) (k : Nat) : Nat := (x.data.toList.getD k 0).toNat
def hrun (x : ByteArray) (s : Sip) : Nat → Sip × Int
  | 0 => (s, 0)
  | k + 1 => hbyte k (hrun x s k) (byteAt x k)
theorem hasher_set5 {w : World} {g : Nat} {t : TypeId} {S : Sip} {L C : Int} (h : w.rowIs g t 7 (hasherF S L C)) (x : Int) : (w.setCell ⟨g, 5, none⟩ (.int .u64 x)).rowIs g t 7 (hasherF S x C) :=
  (h.set 5 _).congr fun j hj => by
    have hj' : j = 0 ∨ j = 1 ∨ j = 2 ∨ j = 3 ∨ j = 4 ∨ j = 5 ∨ j = 6 := by omega
    rcases hj' with rfl | rfl | rfl | rfl | rfl | rfl | rfl <;> rfl
theorem hasher_set6 {w : World} {g : Nat} {t : TypeId} {S : Sip} {L C : Int} (h : w.rowIs g t 7 (hasherF S L C)) (x : Int) : (w.setCell ⟨g, 6, none⟩ (.int .i64 x)).rowIs g t 7 (hasherF S L x) :=
  (h.set 6 _).congr fun j hj => by
    have hj' : j = 0 ∨ j = 1 ∨ j = 2 ∨ j = 3 ∨ j = 4 ∨ j = 5 ∨ j = 6 := by omega
    rcases hj' with rfl | rfl | rfl | rfl | rfl | rfl | rfl <;> rfl

set_option maxRecDepth 100000 in
set_option maxHeartbeats 4000000 in
theorem write_any (g : Nat) (s : Sip) (x : ByteArray) (w : World) (h : w.rowIs g 143 7 (hasherF s 0 0)) (hx : x.size ≤ 1000000) :
    Calls Try.prog 67 #[.pointer (some ⟨g, 0, none⟩), .string x] w fun e w' => e = .returned (.tuple #[]) ∧ w'.rowIs g 143 7 (hasherF (hrun x s x.size).1 (hrun x s x.size).2 x.size) ∧ Chg (· = g) w w' := by
  have r0 := h.cell (i := 0) (by omega)
  have cv := Lib.run_convert_string_bytes (P := Try.prog) w 9 120 5 x Try.underlying9 Try.underlying120 Try.underlying5
  have hcW := bytesWorld_chg w 5 x
  have hcell := Lib.bytesWorld_cell w 5 x
  have hsz := Lib.bytesWorld_size w 5 x
  have hlt := h.lt
  have hW := rowIs_chg h hcW (fun h => h)
  generalize Lib.bytesWorld w 5 x = W at *
  simp [hasherF, sipF] at r0
  go_enter Try.func67, Try.ntmps67
  go_wp2_with fail
  clear cv r0 h
  go_loopw [18] (fun i wr => ∃ (k : Nat) (S : Sip) (L : Int), k ≤ x.size ∧ i = .int .i64 k ∧ hrun x s k = (S, L) ∧ wr.rowIs g 143 7 (hasherF S L k) ∧ Chg (· = g) W wr) (fun i _ => x.size - (intOf i).toNat)
  case atStart => exact ⟨0, _, _, by omega, rfl, rfl, hW, Chg.refl _ _⟩
  case round =>
    obtain ⟨k, S, L, hk, rfl, hS, hr, hc⟩ := hrel
    by_cases hlt2 : k < x.size
    · have hlti : (k : Int) < (x.size : Int) := by omega
      have b0 := (cell_chg hc (a := ⟨w.heap.size, k, none⟩) (show w.heap.size < W.heap.size by omega) (show w.heap.size ≠ g by omega)).trans (hcell k hlt2)
      obtain ⟨c, hcd⟩ : ∃ c, (x.data.toList.getD k 0).toNat = c := ⟨_, rfl⟩
      rw [hcd] at b0
      have r5 := hr.cell (i := 5) (by omega)
      have r6 := hr.cell (i := 6) (by omega)
      have q5 := hr.frozen 5
      simp [hasherF, sipF] at r5 r6
      obtain ⟨r, hr8⟩ : ∃ r, k % 8 = r := ⟨_, rfl⟩
      have hr7 : r < 8 := by omega
      have tm : Int.tmod (k : Int) 8 = (r : Int) := by rw [← hr8]; simp [Int.tmod]
      have hR : hrun x s (k + 1) = hbyte k (S, L) c := by rw [← hcd, ← hS]; rfl
      unfold hbyte at hR
      simp only [hr8] at hR
      replace hR := Lib.hid hR
      replace hr8 := Lib.hid hr8
      replace hS := Lib.hid hS
      replace hcd := Lib.hid hcd
      clear hcell hW
      go_wp2_with fail
      go_region
      clear r5 r6 q5 tm b0
      obtain ⟨L', hL'⟩ : ∃ L', lastS r L c = L' := ⟨_, rfl⟩
      rw [hL'] at hR
      have hL2 : bits BinOp.or IntKind.u64 L (IntKind.u64.wrap (IntKind.u64.wrap (c : Int) * 2 ^ (8 * r))) = L' := hL'
      rw [hL2]
      have hr1 := (hasher_set5 hr L').drew
      have hc1 : Chg (· = g) W (wr.setCell ⟨g, 5, none⟩ (.int .u64 L')).drew := (hc.setCell (p := ⟨g, 5, none⟩) (fun _ => rfl) _).drew
      generalize (wr.setCell ⟨g, 5, none⟩ (.int .u64 L')).drew = w1 at *
      clear hL' hL2 hr hc
      have r6 := hr1.cell (i := 6) (by omega)
      have q6 := hr1.frozen 6
      simp [hasherF, sipF] at r6
      have hr2 := hasher_set6 hr1 ((k : Int) + 1)
      have hc2 : Chg (· = g) W (w1.setCell ⟨g, 6, none⟩ (.int .i64 ((k : Int) + 1))) := hc1.setCell (p := ⟨g, 6, none⟩) (fun _ => rfl) _
      by_cases h8 : (k + 1) % 8 = 0
      · have tm : Int.tmod ((k : Int) + 1) 8 = 0 := by rw [show ((k : Int) + 1) = ((k + 1 : Nat) : Int) by omega]; simp [Int.tmod]; omega
        rw [if_pos h8] at hR
        replace h8 := Lib.hid h8
        replace hR := Lib.hid hR.out
        clear hr1 hc1
        go_wp2_with fail
        clear r6 q6 tm
        generalize (w1.setCell ⟨g, 6, none⟩ (.int .i64 ((k : Int) + 1))) = w2 at *
        have r5 := hr2.cell (i := 5) (by omega)
        simp [hasherF, sipF] at r5
        refine wp_region_still_tail 7 (by kernel_rfl) (by kernel_rfl) ?_
        simp only [List.take_succ_cons, List.take_zero, List.drop_succ_cons, List.drop_zero]
        repeat still_step
        refine wpStill_nil ?_
        change wpList _ _ _ _ _ w2.drew
        have hr3 : w2.drew.rowIs g 143 7 (hasherF S L' ((k : Int) + 1)) := hr2.drew
        have hc3 : Chg (· = g) W w2.drew := hc2.drew
        generalize w2.drew = w3 at *
        clear hr2 hc2 r5
        go_wp2_with (go_at_call 90; refine (take_any g 1 _ 7 _ S L' _ hr3 (by omega)).mono ?_; rintro e w4 ⟨rfl, hr4, hc4⟩; have hr5 : w4.rowIs g 143 7 (hasherF (stake S L') L' ((k : Int) + 1)) := hr4; have r5 := hr5.cell (i := 5) (by omega); have q5 := hr5.frozen 5; simp [hasherF, sipF] at r5)
        go_roundw
        case rel =>
          exact ⟨k + 1, _, _, by omega, by go_num, hR.out, by simpa using hasher_set5 hr5 0, (hc3.trans hc4 (fun _ _ h => h)).setCell (p := ⟨g, 5, none⟩) (fun _ => rfl) _⟩
        case measure => simp [intOf]; omega
      · have tm : Int.tmod ((k : Int) + 1) 8 = (((k + 1) % 8 : Nat) : Int) := by rw [show ((k : Int) + 1) = ((k + 1 : Nat) : Int) by omega]; simp [Int.tmod]
        have tz : ((((k + 1) % 8 : Nat) : Int) == 0) = false := by simp; omega
        generalize hm : (k + 1) % 8 = m8 at *
        rw [if_neg h8] at hR
        replace h8 := Lib.hid h8
        replace hm := Lib.hid hm
        replace hR := Lib.hid hR
        clear hr1 hc1
        go_wp2_with fail
        go_roundw
        case rel => exact ⟨k + 1, _, _, by omega, by go_num, hR.out, by simpa using hr2, hc2⟩
        case measure => simp [intOf]; omega
    · have hlti : ¬ (k : Int) < (x.size : Int) := by omega
      obtain rfl : k = x.size := by omega
      replace hS := Lib.hid hS
      go_wp2_with fail
      go_end0
      rw [hS.out]
      exact ⟨rfl, hr, (hcW.mono (fun _ _ h => h.elim)).trans hc (fun _ _ h => h)⟩
end Go.Proofs.Ytnmmjchhinfbpaa

namespace Go.Proofs.Ytnmmjchhinfbpaa
open Go Go.RowKit Go.Deep

def endWord (L C : Int) : Int := bits BinOp.or IntKind.u64 L (IntKind.u64.wrap (IntKind.u64.wrap C * 72057594037927936))
def sipEnd (t : Sip) : Int :=
  let u := siter 4 ⟨t.a, t.b, xorU t.c 255, t.d⟩
  xorU (xorU (xorU u.a u.b) u.c) u.d
theorem sip_alloc (w : World) (t : TypeId) (a b c d : Int) : (w.alloc (.cells #[.int .u64 a, .int .u64 b, .int .u64 c, .int .u64 d] t)).rowIs w.heap.size t 4 (sipF (fun _ => undef) 0 ⟨a, b, c, d⟩) :=
  ⟨_, Blk.new w t _, rfl, fun i hi => by
    have hi' : i = 0 ∨ i = 1 ∨ i = 2 ∨ i = 3 := by omega
    rcases hi' with rfl | rfl | rfl | rfl <;> rfl⟩

set_option maxRecDepth 100000 in
set_option maxHeartbeats 4000000 in
theorem sum_any (g : Nat) (S : Sip) (L : Int) (C : Nat) (w : World) (h : w.rowIs g 143 7 (hasherF S L C)) :
    Calls Try.prog 68 #[.pointer (some ⟨g, 0, none⟩)] w fun e w' => e = .returned (.int .u64 (sipEnd (stake S (endWord L C)))) ∧ Below w.heap.size w w' := by
  obtain ⟨a, b, c, d⟩ := S
  have r0 := h.cell (i := 0) (by omega)
  have r1 := h.cell (i := 1) (by omega)
  have r2 := h.cell (i := 2) (by omega)
  have r3 := h.cell (i := 3) (by omega)
  have r4 := h.cell (i := 4) (by omega)
  simp [hasherF, sipF] at r0 r1 r2 r3 r4
  have hlt := h.lt
  have hA := sip_alloc w 141 a b c d
  have hh := h.alloc (.cells #[.int .u64 a, .int .u64 b, .int .u64 c, .int .u64 d] 141)
  have hb : Below w.heap.size w (w.alloc (.cells #[.int .u64 a, .int .u64 b, .int .u64 c, .int .u64 d] 141)) := (Below.refl _ _).alloc (Nat.le_refl _) _
  go_enter Try.func68, Try.ntmps68
  go_wp2_with fail
  clear r0 r1 r2 r3 r4 h
  generalize (w.alloc (.cells #[.int .u64 a, .int .u64 b, .int .u64 c, .int .u64 d] 141)) = w1 at *
  have r5 := hh.cell (i := 5) (by omega)
  have r6 := hh.cell (i := 6) (by omega)
  simp [hasherF, sipF] at r5 r6
  refine wp_region_still_tail 11 (by kernel_rfl) (by kernel_rfl) ?_
  simp only [List.take_succ_cons, List.take_zero, List.drop_succ_cons, List.drop_zero]
  repeat still_step
  refine wpStill_nil ?_
  change wpList _ _ _ _ _ w1.drew
  have hA1 : w1.drew.rowIs w.heap.size 141 4 (sipF (fun _ => undef) 0 ⟨a, b, c, d⟩) := hA.drew
  have hb1 : Below w.heap.size w w1.drew := ⟨hb.os, hb.tape, hb.output, hb.size, hb.block⟩
  generalize w1.drew = w2 at *
  clear hA hb hh r5 r6
  obtain ⟨m, hm⟩ : ∃ m, bits BinOp.or IntKind.u64 L (IntKind.u64.wrap (IntKind.u64.wrap (C : Int) * 72057594037927936)) = m := ⟨_, rfl⟩
  rw [hm]
  have hm' : endWord L C = m := hm
  clear hm
  have T := take_any w.heap.size 0 141 4 (fun _ => undef) ⟨a, b, c, d⟩ m w2 hA1 (by omega)
  obtain ⟨t, ht⟩ : ∃ t, stake ⟨a, b, c, d⟩ m = t := ⟨_, rfl⟩
  rw [ht] at T
  obtain ⟨ta, tb, tc, td⟩ := t
  replace ht := Lib.hid ht
  replace hm' := Lib.hid hm'
  replace T := Lib.hid T
  clear hA1
  go_wp2_with (go_at_call 90; refine T.out.mono ?_; rintro e w3 ⟨rfl, h3, hc3⟩; have r2 := h3.cell (i := 2) (by omega); have q2 := h3.frozen 2; simp [sipF] at r2)
  have hb3 : Below w.heap.size w w3 := below_chg hb1 hc3 (fun b h e => by omega) hb1.size
  obtain ⟨y, hy⟩ : ∃ y, bits BinOp.xor IntKind.u64 tc 255 = y := ⟨_, rfl⟩
  rw [hy]
  have h4 : (w3.setCell ⟨w.heap.size, 2, none⟩ (.int .u64 y)).rowIs w.heap.size 141 4 (sipF (fun _ => undef) 0 ⟨ta, tb, y, td⟩) := sip_setc h3 y
  have hb4 : Below w.heap.size w (w3.setCell ⟨w.heap.size, 2, none⟩ (.int .u64 y)) := hb3.setCell (Nat.le_refl _) _
  generalize (w3.setCell ⟨w.heap.size, 2, none⟩ (.int .u64 y)) = w4 at *
  obtain ⟨u, hu⟩ : ∃ u, siter 4 ⟨ta, tb, y, td⟩ = u := ⟨_, rfl⟩
  have M := mix_any w.heap.size 0 141 4 (fun _ => undef) ⟨ta, tb, y, td⟩ 4 w4 h4 (by omega) (by omega) (by omega)
  rw [hu] at M
  obtain ⟨ua, ub, uc, ud⟩ := u
  have hE : sipEnd ⟨ta, tb, tc, td⟩ = xorU (xorU (xorU ua ub) uc) ud := by
    show xorU (xorU (xorU (siter 4 ⟨ta, tb, bits BinOp.xor IntKind.u64 tc 255, td⟩).a (siter 4 ⟨ta, tb, bits BinOp.xor IntKind.u64 tc 255, td⟩).b) (siter 4 ⟨ta, tb, bits BinOp.xor IntKind.u64 tc 255, td⟩).c) (siter 4 ⟨ta, tb, bits BinOp.xor IntKind.u64 tc 255, td⟩).d = _
    rw [hy, hu]
  replace hE := Lib.hid hE
  clear hu hy h3 hc3 hb1 hb3 r2 q2 T h4
  go_wp2_with fail
  refine M.mono ?_
  rintro e w5 ⟨rfl, h5, hc5⟩
  have hb5 : Below w.heap.size w w5 := below_chg hb4 hc5 (fun b h e => by omega) hb4.size
  have r0 := h5.cell (i := 0) (by omega)
  have r1 := h5.cell (i := 1) (by omega)
  have r2 := h5.cell (i := 2) (by omega)
  have r3 := h5.cell (i := 3) (by omega)
  simp [sipF] at r0 r1 r2 r3
  clear M hc5 hb4
  go_wp2_with fail
  go_ret
  rw [hm'.out, ht.out, hE.out]
  exact ⟨rfl, hb5⟩

def sipHash (a b : Int) (x : ByteArray) : Int := sipEnd (stake (hrun x (sip0 a b) x.size).1 (endWord (hrun x (sip0 a b) x.size).2 x.size))
theorem hash_any (a b : Int) (x : ByteArray) (w : World) (hx : x.size ≤ 1000000) : Calls Try.prog 30 #[.agg #[.int .u64 a, .int .u64 b], .string x] w fun e w' => e = .returned (.int .u64 (sipHash a b x)) ∧ Below w.heap.size w w' := by
  obtain ⟨R, hR⟩ : ∃ R, hrun x (sip0 a b) x.size = R := ⟨_, rfl⟩
  unfold sipHash
  rw [hR]
  obtain ⟨S, L⟩ := R
  replace hR := Lib.hid hR
  go_enter Try.func30, Try.ntmps30
  go_wp2_with fail
  refine (new_sip a b _).mono ?_
  rintro e w1 ⟨g, rfl, h1, hb1, hg1⟩
  have hz : w.heap.size < g := by simp at hg1; omega
  have hb : Below w.heap.size w w1 := (by repeat (first | exact Below.refl _ _ | assumption | refine below_alloc ?_ _ | refine below_chain (by assumption) ?_ | refine below_call2 (by assumption) ?_ (by first | omega | (simp; done) | (simp; omega) | (simp [World.setCell]; omega)) | refine below_drewN ?_ _ | refine Below.drew ?_ | refine Below.alloc ?_ (by first | omega | (simp; done) | (simp; omega) | (simp [World.setCell]; omega)) _ | refine Below.setCell ?_ (by first | omega | (simp; done) | (simp; omega) | (simp [World.setCell]; omega)) _))
  go_wp2_with fail
  refine (write_any g (sip0 a b) x w1 h1 hx).mono ?_
  rintro e w2 ⟨rfl, h2, hc2⟩
  rw [hR.out] at h2
  have hb2 := below_chg hb hc2 (fun b h e => by omega) hb.size
  go_wp2_with fail
  refine (sum_any g S L x.size w2 h2).mono ?_
  rintro e w3 ⟨rfl, hb3⟩
  have hb4 := below_call hb2 hb2.size hb3
  go_wp2_with fail
  go_ret
  exact ⟨rfl, hb4⟩
end Go.Proofs.Ytnmmjchhinfbpaa

namespace Go.Proofs.Ytnmmjchhinfbpaa
open Go Go.RowKit Go.Deep

def lastW (x : ByteArray) : Int := IntKind.u64.wrap (wordL (x.extract (8 * (x.size / 8)) x.size).data.toList + (x.size : Int) % 256 * 72057594037927936)
def mw (x : ByteArray) (k : Nat) : Int := if k = x.size / 8 then lastW x else wordL (x.extract (8 * k) (8 * k + 8)).data.toList
def bs (x : ByteArray) (S : Sip) : Nat → Sip
  | 0 => S
  | k + 1 => stake (bs x S k) (mw x k)

set_option maxRecDepth 100000 in
set_option maxHeartbeats 4000000 in
theorem refhash (a b : Int) (x : ByteArray) (w : World) (hx : x.size ≤ 1000000) : Calls Try.prog 34 #[.agg #[.int .u64 a, .int .u64 b], .string x] w fun e w' => e = .returned (.int .u64 (sipEnd (bs x (sip0 a b) (x.size / 8 + 1)))) ∧ Below w.heap.size w w' := by
  have hb0 : Below w.heap.size w (w.alloc (.cells #[.int .u64 a, .int .u64 b] 25)) := (Below.refl _ _).alloc (Nat.le_refl _) _
  go_enter Try.func34, Try.ntmps34
  go_wp2_with fail
  go_quiet (fail)
  go_wp2_with fail
  go_quiet (fail)
  go_wp2_with fail
  go_loopw [5, 6, 7, 8, 10] (fun sa sb sc sd i wr => ∃ (k : Nat) (S : Sip), k ≤ x.size / 8 + 1 ∧ i = .int .i64 (8 * (k : Int)) ∧ S = bs x (sip0 a b) k ∧ sa = .int .u64 S.a ∧ sb = .int .u64 S.b ∧ sc = .int .u64 S.c ∧ sd = .int .u64 S.d ∧ Below w.heap.size w wr) (fun _ _ _ _ i _ => x.size + 9 - (intOf i).toNat)
  case atStart => exact ⟨0, _, by omega, rfl, rfl, rfl, rfl, rfl, rfl, below_drewN hb0 _⟩
  case round =>
    obtain ⟨k, S, hk, rfl, hS, rfl, rfl, rfl, rfl, hb⟩ := hrel
    clear hb0
    have hsucc : bs x (sip0 a b) (k + 1) = stake S (mw x k) := by rw [hS]; rfl
    replace hS := Lib.hid hS
    by_cases hlt : k < x.size / 8
    · have h2 : 8 * (k : Int) + 8 ≤ (x.size : Int) := by omega
      have h3 : 8 * (k : Int) ≤ (x.size : Int) / 8 * 8 := by omega
      have h4 : (8 * (k : Int) == (x.size : Int) / 8 * 8) = false := by simp; omega
      have hm : mw x k = wordL (x.extract (8 * k) (8 * k + 8)).data.toList := by unfold mw; rw [if_neg (by omega)]
      obtain ⟨m, hme⟩ : ∃ m, wordL (x.extract (8 * k) (8 * k + 8)).data.toList = m := ⟨_, rfl⟩
      have Wd := refword (x.extract (8 * k) (8 * k + 8)) wr (by rw [ByteArray.size_extract]; omega)
      rw [hme] at Wd hm
      rw [hm] at hsucc
      obtain ⟨a0, b0, c0, d0⟩ := S
      replace hsucc := Lib.hid hsucc
      clear hme hm
      go_wp2_with (go_at_call 71; refine Wd.mono ?_; rintro e w' ⟨rfl, rfl⟩)
      obtain ⟨y, hy⟩ : ∃ y, bits BinOp.xor IntKind.u64 d0 m = y := ⟨_, rfl⟩
      rw [hy]
      obtain ⟨T0, hT0⟩ : ∃ T : Sip, T = ⟨a0, b0, c0, y⟩ := ⟨_, rfl⟩
      have hst : stake ⟨a0, b0, c0, d0⟩ m = ⟨xorU (siter 2 T0).a m, (siter 2 T0).b, (siter 2 T0).c, (siter 2 T0).d⟩ := by rw [hT0, ← hy]; rfl
      have hstep := hsucc.out
      rw [hst] at hstep
      replace hstep := Lib.hid hstep
      clear hst hsucc hy
      go_loopw [5, 6, 7, 8, 12] (fun sa sb sc sd i wr => ∃ (j : Nat), j ≤ 2 ∧ i = .int .i64 (j : Int) ∧ sa = .int .u64 (siter j T0).a ∧ sb = .int .u64 (siter j T0).b ∧ sc = .int .u64 (siter j T0).c ∧ sd = .int .u64 (siter j T0).d ∧ Below w.heap.size w wr) (fun _ _ _ _ i _ => 2 - (intOf i).toNat)
      case atStart => exact ⟨0, by omega, rfl, by rw [hT0]; rfl, by rw [hT0]; rfl, by rw [hT0]; rfl, by rw [hT0]; rfl, hb⟩
      case round =>
        clear hb
        obtain ⟨j, hj, rfl, rfl, rfl, rfl, rfl, hb⟩ := hrel
        have hS2 : siter (j + 1) T0 = sround (siter j T0) := rfl
        have R := refround (siter j T0) wr
        by_cases hlj : j < 2
        · have hlji : (j : Int) < 2 := by omega
          obtain ⟨t, ht⟩ : ∃ t, siter j T0 = t := ⟨_, rfl⟩
          rw [ht] at R hS2 ⊢
          obtain ⟨u, hu⟩ : ∃ u, sround t = u := ⟨_, rfl⟩
          rw [hu] at R hS2
          replace hS2 := Lib.hid hS2
          replace hT0 := Lib.hid hT0
          clear hu ht
          go_wp2_with (go_at_call 72; refine R.mono ?_; rintro e w1 ⟨rfl, hb1⟩)
          go_roundw
          case rel => exact ⟨j + 1, by omega, by go_num, by rw [hS2.out], by rw [hS2.out], by rw [hS2.out], by rw [hS2.out], below_call hb hb.size hb1⟩
          case measure => simp [intOf]; omega
        · obtain rfl : j = 2 := by omega
          have hlji : ¬ (((2 : Nat) : Int) < 2) := by omega
          obtain ⟨t, ht⟩ : ∃ t, siter 2 T0 = t := ⟨_, rfl⟩
          have hst2 := hstep.out
          rw [ht] at hst2 ⊢
          replace hst2 := Lib.hid hst2
          replace hT0 := Lib.hid hT0
          clear R hS2 hstep ht
          go_wp2_with fail
          go_roundw
          case rel => exact ⟨k + 1, _, by omega, by go_num, hst2.out.symm, rfl, rfl, rfl, rfl, hb⟩
          case measure => simp [intOf]; omega
    · by_cases hq : k = x.size / 8
      · have h3 : 8 * (k : Int) ≤ (x.size : Int) / 8 * 8 := by omega
        have h4 : (8 * (k : Int) == (x.size : Int) / 8 * 8) = true := by simp; omega
        have h5 : ¬ 8 * (k : Int) + 8 ≤ (x.size : Int) := by omega
        have h6 : (x.size : Int) < 8 * (k : Int) + 8 := by omega
        have h7 : 8 * (k : Int) ≤ (x.size : Int) := by omega
        have tm : Int.tmod (x.size : Int) 256 = ((x.size % 256 : Nat) : Int) := by simp [Int.tmod]
        have hm : mw x k = lastW x := by unfold mw; rw [if_pos hq]
        unfold lastW at hm
        rw [← hq] at hm
        obtain ⟨wl, hwl⟩ : ∃ m, wordL (x.extract (8 * k) x.size).data.toList = m := ⟨_, rfl⟩
        have Wd := refword (x.extract (8 * k) x.size) wr (by rw [ByteArray.size_extract]; omega)
        rw [hwl] at Wd hm
        rw [hm] at hsucc
        obtain ⟨a0, b0, c0, d0⟩ := S
        replace hsucc := Lib.hid hsucc
        replace hq := Lib.hid hq
        clear hwl hm hlt
        go_wp2_with (go_at_call 71; refine Wd.mono ?_; rintro e w' ⟨rfl, rfl⟩)
        obtain ⟨m, hme⟩ : ∃ m, IntKind.u64.wrap (wl + (x.size : Int) % 256 * 72057594037927936) = m := ⟨_, rfl⟩
        have hsucc2 := hsucc.out
        rw [hme] at hsucc2 ⊢
        have hsucc := Lib.hid hsucc2
        clear hsucc2 hme
        obtain ⟨y, hy⟩ : ∃ y, bits BinOp.xor IntKind.u64 d0 m = y := ⟨_, rfl⟩
        rw [hy]
        obtain ⟨T0, hT0⟩ : ∃ T : Sip, T = ⟨a0, b0, c0, y⟩ := ⟨_, rfl⟩
        have hst : stake ⟨a0, b0, c0, d0⟩ m = ⟨xorU (siter 2 T0).a m, (siter 2 T0).b, (siter 2 T0).c, (siter 2 T0).d⟩ := by rw [hT0, ← hy]; rfl
        have hstep := hsucc.out
        rw [hst] at hstep
        replace hstep := Lib.hid hstep
        clear hst hsucc hy
        go_loopw [5, 6, 7, 8, 12] (fun sa sb sc sd i wr => ∃ (j : Nat), j ≤ 2 ∧ i = .int .i64 (j : Int) ∧ sa = .int .u64 (siter j T0).a ∧ sb = .int .u64 (siter j T0).b ∧ sc = .int .u64 (siter j T0).c ∧ sd = .int .u64 (siter j T0).d ∧ Below w.heap.size w wr) (fun _ _ _ _ i _ => 2 - (intOf i).toNat)
        case atStart => exact ⟨0, by omega, rfl, by rw [hT0]; rfl, by rw [hT0]; rfl, by rw [hT0]; rfl, by rw [hT0]; rfl, hb⟩
        case round =>
          clear hb
          obtain ⟨j, hj, rfl, rfl, rfl, rfl, rfl, hb⟩ := hrel
          have hS2 : siter (j + 1) T0 = sround (siter j T0) := rfl
          have R := refround (siter j T0) wr
          by_cases hlj : j < 2
          · have hlji : (j : Int) < 2 := by omega
            obtain ⟨t, ht⟩ : ∃ t, siter j T0 = t := ⟨_, rfl⟩
            rw [ht] at R hS2 ⊢
            obtain ⟨u, hu⟩ : ∃ u, sround t = u := ⟨_, rfl⟩
            rw [hu] at R hS2
            replace hS2 := Lib.hid hS2
            replace hT0 := Lib.hid hT0
            clear hu ht
            go_wp2_with (go_at_call 72; refine R.mono ?_; rintro e w1 ⟨rfl, hb1⟩)
            go_roundw
            case rel => exact ⟨j + 1, by omega, by go_num, by rw [hS2.out], by rw [hS2.out], by rw [hS2.out], by rw [hS2.out], below_call hb hb.size hb1⟩
            case measure => simp [intOf]; omega
          · obtain rfl : j = 2 := by omega
            have hlji : ¬ (((2 : Nat) : Int) < 2) := by omega
            obtain ⟨t, ht⟩ : ∃ t, siter 2 T0 = t := ⟨_, rfl⟩
            have hst2 := hstep.out
            rw [ht] at hst2 ⊢
            replace hst2 := Lib.hid hst2
            replace hT0 := Lib.hid hT0
            clear R hS2 hstep ht
            go_wp2_with fail
            go_roundw
            case rel => exact ⟨k + 1, _, by omega, by go_num, hst2.out.symm, rfl, rfl, rfl, rfl, hb⟩
            case measure => simp [intOf]; omega
      · obtain rfl : k = x.size / 8 + 1 := by omega
        have h3 : ¬ 8 * ((x.size / 8 + 1 : Nat) : Int) ≤ (x.size : Int) / 8 * 8 := by omega
        obtain ⟨ta, tb, tc, td⟩ := S
        clear hsucc
        obtain ⟨y, hy⟩ : ∃ y, bits BinOp.xor IntKind.u64 tc 255 = y := ⟨_, rfl⟩
        obtain ⟨u, hu⟩ : ∃ u, siter 4 ⟨ta, tb, y, td⟩ = u := ⟨_, rfl⟩
        have M := fun W => refmix ⟨ta, tb, y, td⟩ 4 W (by omega)
        rw [hu] at M
        obtain ⟨ua, ub, uc, ud⟩ := u
        have hE : sipEnd ⟨ta, tb, tc, td⟩ = xorU (xorU (xorU ua ub) uc) ud := by
          show xorU (xorU (xorU (siter 4 ⟨ta, tb, bits BinOp.xor IntKind.u64 tc 255, td⟩).a (siter 4 ⟨ta, tb, bits BinOp.xor IntKind.u64 tc 255, td⟩).b) (siter 4 ⟨ta, tb, bits BinOp.xor IntKind.u64 tc 255, td⟩).c) (siter 4 ⟨ta, tb, bits BinOp.xor IntKind.u64 tc 255, td⟩).d = _
          rw [hy, hu]
        replace hE := Lib.hid hE
        replace M := Lib.hid M
        replace hu := Lib.hid hu
        go_wp2_with fail
        refine (M.out _).mono ?_
        rintro e w1 ⟨rfl, hb1⟩
        have hb2 := below_call hb hb.size hb1
        have hb3 : Below w.heap.size w (w1.alloc (.cells #[.int .u64 ua, .int .u64 ub, .int .u64 uc, .int .u64 ud] 126)) := hb2.alloc hb2.size _
        go_wp2_with fail
        go_ret
        rw [← hS.out, hE.out]
        exact ⟨rfl, hb3⟩
end Go.Proofs.Ytnmmjchhinfbpaa

namespace Go.Proofs.Ytnmmjchhinfbpaa
open Go Go.RowKit Go.Deep

theorem wrap_u64_id (n : Nat) (h : n < 18446744073709551616) : IntKind.u64.wrap (n : Int) = n := by
  simp [IntKind.wrap, IntKind.bits, IntKind.signed]
  omega
theorem or_add (a c m : Nat) (ha : a < 2 ^ m) (hc : c * 2 ^ m < 18446744073709551616) (hm : 2 ^ m ≤ 18446744073709551616) : bits BinOp.or IntKind.u64 (a : Int) ((c * 2 ^ m : Nat) : Int) = ((a + c * 2 ^ m : Nat) : Int) := by
  have h1 : a ||| c * 2 ^ m = a + c * 2 ^ m := by
    have := Nat.two_pow_add_eq_or_of_lt ha c
    rw [Nat.or_comm, Nat.mul_comm c, ← this, Nat.add_comm]
  unfold bits
  have h2 : a + c * 2 ^ m < 18446744073709551616 := by
    rw [← h1]
    have : a < 2 ^ 64 := by omega
    exact Nat.or_lt_two_pow (n := 64) this hc
  have e1 : (BitVec.ofInt 64 (a : Int)).toNat = a := by rw [BitVec.toNat_ofInt]; omega
  have e2 : (BitVec.ofInt 64 ((c * 2 ^ m : Nat) : Int)).toNat = c * 2 ^ m := by rw [BitVec.toNat_ofInt]; omega
  show IntKind.u64.wrap ((BitVec.ofInt 64 (a : Int) ||| BitVec.ofInt 64 ((c * 2 ^ m : Nat) : Int)).toNat : Int) = _
  rw [BitVec.toNat_or, e1, e2, h1]
  exact wrap_u64_id _ h2
def wn : List UInt8 → Nat
  | [] => 0
  | c :: l => wn l * 256 + c.toNat
theorem wn_lt : ∀ l : List UInt8, wn l < 256 ^ l.length
  | [] => by simp [wn]
  | c :: l => by
    have := wn_lt l
    have hc : c.toNat < 256 := c.toNat_lt
    rw [wn, List.length_cons, Nat.pow_succ]
    omega
theorem wn_snoc : ∀ (l : List UInt8) (c : UInt8), wn (l ++ [c]) = wn l + c.toNat * 256 ^ l.length
  | [], c => by simp [wn]
  | d :: l, c => by
    rw [List.cons_append, wn, wn_snoc l c, wn, List.length_cons, Nat.pow_succ, ← Nat.mul_assoc, Nat.add_mul]
    omega
theorem wordL_wn : ∀ l : List UInt8, l.length ≤ 8 → wordL l = (wn l : Int)
  | [], _ => rfl
  | c :: l, h => by
    simp only [List.length_cons] at h
    have h1 := wordL_wn l (by omega)
    have h2 := wn_lt (c :: l)
    have h5 : (c :: l).length ≤ 8 := by simp only [List.length_cons]; omega
    have h6 : 256 ^ (c :: l).length ≤ 256 ^ 8 := Nat.pow_le_pow_right (by decide) h5
    have h7 : (256 : Nat) ^ 8 = 18446744073709551616 := by decide
    have h3 : 256 ^ (c :: l).length ≤ 18446744073709551616 := by rw [← h7]; exact h6
    have h2' : wn l * 256 + c.toNat < 256 ^ (c :: l).length := h2
    have h4 : wn l * 256 + c.toNat < 18446744073709551616 := Nat.lt_of_lt_of_le h2' h3
    clear h2 h3 h2' h5 h6 h7
    have hc : c.toNat < 256 := c.toNat_lt
    have e3 : (wn l : Int) * 256 = ((wn l * 256 : Nat) : Int) := by simp
    have e4 := wrap_u64_id c.toNat (Nat.lt_trans hc (by decide))
    have e5 := wrap_u64_id (wn l * 256) (Nat.lt_of_le_of_lt (Nat.le_add_right _ _) h4)
    have e6 := wrap_u64_id (wn l * 256 + c.toNat) h4
    show IntKind.u64.wrap (IntKind.u64.wrap (wordL l * 256) + IntKind.u64.wrap (c.toNat : Int)) = ((wn l * 256 + c.toNat : Nat) : Int)
    rw [h1, e3, e4, e5]
    exact e6
end Go.Proofs.Ytnmmjchhinfbpaa

namespace Go.Proofs.Ytnmmjchhinfbpaa
open Go Go.RowKit Go.Deep

def tailB (x : ByteArray) (k : Nat) : List UInt8 := (x.data.toList.drop (8 * (k / 8))).take (k % 8)
theorem lastS_wn (l : List UInt8) (c : UInt8) (h : l.length < 8) : lastS l.length (wn l : Int) c.toNat = (wn (l ++ [c]) : Int) := by
  have hc : c.toNat < 256 := c.toNat_lt
  have hl := wn_lt l
  have hp : 256 ^ l.length = 2 ^ (8 * l.length) := by rw [Nat.pow_mul]
  rw [hp] at hl
  have h2 := wn_lt (l ++ [c])
  have h6 : 256 ^ (l ++ [c]).length ≤ 256 ^ 8 := Nat.pow_le_pow_right (by decide) (by rw [List.length_append]; exact h)
  have h7 : (256 : Nat) ^ 8 = 18446744073709551616 := by decide
  rw [h7] at h6
  have h8 : wn (l ++ [c]) < 18446744073709551616 := Nat.lt_of_lt_of_le h2 h6
  rw [wn_snoc, hp] at h8
  have h9 : c.toNat * 2 ^ (8 * l.length) < 18446744073709551616 := Nat.lt_of_le_of_lt (Nat.le_add_left _ _) h8
  have h10 : 2 ^ (8 * l.length) ≤ 18446744073709551616 := by
    have : 256 ^ l.length ≤ 256 ^ 8 := Nat.pow_le_pow_right (by decide) (by omega)
    rw [h7, hp] at this
    exact this
  have e1 := wrap_u64_id c.toNat (Nat.lt_trans hc (by decide))
  have e2 := wrap_u64_id (c.toNat * 2 ^ (8 * l.length)) h9
  unfold lastS
  rw [e1, show (c.toNat : Int) * 2 ^ (8 * l.length) = ((c.toNat * 2 ^ (8 * l.length) : Nat) : Int) by simp, e2, or_add _ _ _ hl h9 h10, wn_snoc, hp]
theorem tail_len (x : ByteArray) (k : Nat) (h : k ≤ x.size) : (tailB x k).length = k % 8 := by
  unfold tailB
  have : x.data.toList.length = x.size := Array.length_toList
  rw [List.length_take, List.length_drop, this]
  omega
theorem tail_snoc (x : ByteArray) (k : Nat) (h : k < x.size) : (x.data.toList.drop (8 * (k / 8))).take (k % 8 + 1) = tailB x k ++ [x.data.toList.getD k 0] := by
  have hl : x.data.toList.length = x.size := Array.length_toList
  unfold tailB
  rw [List.take_add_one, List.getElem?_drop, show 8 * (k / 8) + k % 8 = k by omega, List.getElem?_eq_getElem (by omega), List.getD_eq_getElem?_getD, List.getElem?_eq_getElem (by omega)]
  rfl
theorem extract_list (x : ByteArray) (a b : Nat) : (x.extract a b).data.toList = (x.data.toList.drop a).take (b - a) := by
  simp [ByteArray.data_extract]
theorem hrun_bs (x : ByteArray) (s : Sip) : ∀ k, k ≤ x.size → hrun x s k = (bs x s (k / 8), (wn (tailB x k) : Int))
  | 0, _ => rfl
  | k + 1, hk => by
    have ih := hrun_bs x s k (by omega)
    have hlen := tail_len x k (by omega)
    have hsn := tail_snoc x k (by omega)
    have hw := lastS_wn (tailB x k) (x.data.toList.getD k 0) (by omega)
    rw [hlen] at hw
    show hbyte k (hrun x s k) (byteAt x k) = _
    rw [ih]
    unfold hbyte byteAt
    simp only [hw]
    by_cases h8 : (k + 1) % 8 = 0
    · rw [if_pos h8, show (k + 1) / 8 = k / 8 + 1 by omega]
      have h7 : k % 8 + 1 = 8 := by omega
      rw [h7] at hsn
      have hm : mw x (k / 8) = (wn (tailB x k ++ [x.data.toList.getD k 0]) : Int) := by
        unfold mw
        rw [if_neg (by omega), extract_list, show 8 * (k / 8) + 8 - 8 * (k / 8) = 8 by omega, hsn]
        exact wordL_wn _ (by rw [List.length_append, hlen]; simp; omega)
      have ht : tailB x (k + 1) = [] := by unfold tailB; rw [h8]; rfl
      rw [ht, bs, hm]
      rfl
    · rw [if_neg h8, show (k + 1) / 8 = k / 8 by omega]
      have ht : tailB x (k + 1) = tailB x k ++ [x.data.toList.getD k 0] := by
        rw [← hsn]; unfold tailB; rw [show (k + 1) / 8 = k / 8 by omega, show (k + 1) % 8 = k % 8 + 1 by omega]
      rw [ht]
end Go.Proofs.Ytnmmjchhinfbpaa

namespace Go.Proofs.Ytnmmjchhinfbpaa
open Go Go.RowKit Go.Deep

theorem end_last (x : ByteArray) (hx : x.size ≤ 1000000) : endWord (wn (tailB x x.size) : Int) x.size = lastW x := by
  have hlen := tail_len x x.size (Nat.le_refl _)
  have hl := wn_lt (tailB x x.size)
  have h7 : 256 ^ (tailB x x.size).length ≤ 256 ^ 7 := Nat.pow_le_pow_right (by decide) (by omega)
  have h56 : (256 : Nat) ^ 7 = 2 ^ 56 := by decide
  rw [h56] at h7
  have hl2 : wn (tailB x x.size) < 2 ^ 56 := Nat.lt_of_lt_of_le hl h7
  have hr : x.size % 256 * 2 ^ 56 < 18446744073709551616 := by omega
  have ho := or_add (wn (tailB x x.size)) (x.size % 256) 56 hl2 hr (by decide)
  have ht : (x.extract (8 * (x.size / 8)) x.size).data.toList = tailB x x.size := by
    rw [extract_list]; unfold tailB; rw [show x.size - 8 * (x.size / 8) = x.size % 8 by omega]
  have hw := wordL_wn (tailB x x.size) (by omega)
  unfold lastW endWord
  rw [ht, hw]
  have e1 := wrap_u64_id x.size (by omega)
  have e2 : IntKind.u64.wrap ((x.size : Int) * 72057594037927936) = ((x.size % 256 * 2 ^ 56 : Nat) : Int) := by
    simp [IntKind.wrap, IntKind.bits, IntKind.signed]
    omega
  rw [e1, e2, ho, show (wn (tailB x x.size) : Int) + (x.size : Int) % 256 * 72057594037927936 = ((wn (tailB x x.size) + x.size % 256 * 2 ^ 56 : Nat) : Int) by omega]
  exact (wrap_u64_id _ (by omega)).symm
theorem refhash_any (a b : Int) (x : ByteArray) (w : World) (hx : x.size ≤ 1000000) : Calls Try.prog 34 #[.agg #[.int .u64 a, .int .u64 b], .string x] w fun e w' => e = .returned (.int .u64 (sipHash a b x)) ∧ Below w.heap.size w w' := by
  have h : sipHash a b x = sipEnd (bs x (sip0 a b) (x.size / 8 + 1)) := by
    unfold sipHash
    rw [hrun_bs x _ x.size (Nat.le_refl _), end_last x hx, bs, mw, if_pos rfl]
  rw [h]
  exact refhash a b x w hx
end Go.Proofs.Ytnmmjchhinfbpaa

namespace Go.Proofs.Ytnmmjchhinfbpaa
open Go Go.RowKit Go.Deep

theorem sip_rng (a b : Int) (x : ByteArray) : ∃ h : Nat, sipHash a b x = (h : Int) ∧ h < 18446744073709551616 := by
  have key : ∀ u v : Int, ∃ h : Nat, xorU u v = (h : Int) ∧ h < 18446744073709551616 := by
    intro u v
    have hw : ∀ n : Int, ∃ h : Nat, IntKind.u64.wrap n = (h : Int) ∧ h < 18446744073709551616 := fun n => ⟨(n % 18446744073709551616).toNat, by simp [IntKind.wrap, IntKind.bits, IntKind.signed]; omega, by omega⟩
    exact hw _
  exact key _ _
end Go.Proofs.Ytnmmjchhinfbpaa
