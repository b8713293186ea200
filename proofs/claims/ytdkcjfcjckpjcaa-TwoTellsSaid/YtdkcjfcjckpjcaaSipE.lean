/- sip: Write. -/
import Derived.Test.YtdkcjfcjckpjcaaSipD
namespace Go.Proofs.Ytdkcjfcjckpjcaa
open Go Go.RowKit Go.Deep

def lastS (r : Nat) (L : Int) (c : Nat) : Int := bits BinOp.or IntKind.u64 L (IntKind.u64.wrap (IntKind.u64.wrap (c : Int) * 2 ^ (8 * r)))
def hbyte (k : Nat) (st : Sip × Int) (c : Nat) : Sip × Int := if (k + 1) % 8 = 0 then (stake st.1 (lastS (k % 8) st.2 c), 0) else (st.1, lastS (k % 8) st.2 c)
def byteAt (x : ByteArray) (k : Nat) : Nat := (x.data.toList.getD k 0).toNat
def hrun (x : ByteArray) (s : Sip) : Nat → Sip × Int
  | 0 => (s, 0)
  | k + 1 => hbyte k (hrun x s k) (byteAt x k)
theorem hasher_set5 {w : World} {g : Nat} {t : TypeId} {S : Sip} {L C : Int} (h : w.rowIs g t 7 (hasherF S L C)) (x : Int) : (w.setCell ⟨g, 5, none⟩ (.int .u64 x)).rowIs g t 7 (hasherF S x C) :=
  (h.set 5 _).congr fun j hj => by
    have hj' : j = 0 ∨ j = 1 ∨ j = 2 ∨ j = 3 ∨ j = 4 ∨ j = 5 ∨ j = 6 := by omega
    rcases hj' with rfl | rfl | rfl | rfl | rfl | rfl | rfl <;> rfl
theorem hasher_set6 {w : World} {g : Nat} {t : TypeId} {S : Sip} {L C : Int} (h : w.rowIs g t 7 (hasherF S L C)) (x : Int) : (w.setCell ⟨g, 6, none⟩ (.int .i64 x)).rowIs g t 7 (hasherF S L x) :=
  (h.set 6 _).congr fun j hj => by
    have hj' : j = 0 ∨ j = 1 ∨ j = 2 ∨ j = 3 ∨ j = 4 ∨ j = 5 ∨ j = 6 := by omega
    rcases hj' with rfl | rfl | rfl | rfl | rfl | rfl | rfl <;> rfl

set_option maxRecDepth 100000 in
set_option maxHeartbeats 4000000 in
theorem write_any (g : Nat) (s : Sip) (x : ByteArray) (w : World) (h : w.rowIs g 177 7 (hasherF s 0 0)) (hx : x.size ≤ 1000000) :
    Calls Try.prog 134 #[.pointer (some ⟨g, 0, none⟩), .string x] w fun e w' => e = .returned (.tuple #[]) ∧ w'.rowIs g 177 7 (hasherF (hrun x s x.size).1 (hrun x s x.size).2 x.size) ∧ Chg (· = g) w w' := by
  have r0 := h.cell (i := 0) (by omega)
  have cv := Lib.run_convert_string_bytes (P := Try.prog) w 9 178 5 x Try.underlying9 Try.underlying178 Try.underlying5
  have hcW := bytesWorld_chg w 5 x
  have hcell := Lib.bytesWorld_cell w 5 x
  have hsz := Lib.bytesWorld_size w 5 x
  have hlt := h.lt
  have hW := rowIs_chg h hcW (fun h => h)
  generalize Lib.bytesWorld w 5 x = W at *
  simp [hasherF, sipF] at r0
  go_enter Try.func134, Try.ntmps134
  go_wp2_with fail
  clear cv r0 h
  go_loopw [18] (fun i wr => ∃ (k : Nat) (S : Sip) (L : Int), k ≤ x.size ∧ i = .int .i64 k ∧ hrun x s k = (S, L) ∧ wr.rowIs g 177 7 (hasherF S L k) ∧ Chg (· = g) W wr) (fun i _ => x.size - (intOf i).toNat)
  case atStart => exact ⟨0, _, _, by omega, rfl, rfl, hW, Chg.refl _ _⟩
  case round =>
    obtain ⟨k, S, L, hk, rfl, hS, hr, hc⟩ := hrel
    by_cases hlt2 : k < x.size
    · have hlti : (k : Int) < (x.size : Int) := by omega
      have b0 := (cell_chg hc (a := ⟨w.heap.size, k, none⟩) (show w.heap.size < W.heap.size by omega) (show w.heap.size ≠ g by omega)).trans (hcell k hlt2)
      obtain ⟨c, hcd⟩ : ∃ c, (x.data.toList.getD k 0).toNat = c := ⟨_, rfl⟩
      rw [hcd] at b0
      have r5 := hr.cell (i := 5) (by omega)
      have r6 := hr.cell (i := 6) (by omega)
      have q5 := hr.frozen 5
      simp [hasherF, sipF] at r5 r6
      obtain ⟨r, hr8⟩ : ∃ r, k % 8 = r := ⟨_, rfl⟩
      have hr7 : r < 8 := by omega
      have tm : Int.tmod (k : Int) 8 = (r : Int) := by rw [← hr8]; simp [Int.tmod]
      have hR : hrun x s (k + 1) = hbyte k (S, L) c := by rw [← hcd, ← hS]; rfl
      unfold hbyte at hR
      simp only [hr8] at hR
      replace hR := Lib.hid hR
      replace hr8 := Lib.hid hr8
      replace hS := Lib.hid hS
      replace hcd := Lib.hid hcd
      clear hcell hW
      go_wp2_with fail
      go_region
      clear r5 r6 q5 tm b0
      obtain ⟨L', hL'⟩ : ∃ L', lastS r L c = L' := ⟨_, rfl⟩
      rw [hL'] at hR
      have hL2 : bits BinOp.or IntKind.u64 L (IntKind.u64.wrap (IntKind.u64.wrap (c : Int) * 2 ^ (8 * r))) = L' := hL'
      rw [hL2]
      have hr1 := (hasher_set5 hr L').drew
      have hc1 : Chg (· = g) W (wr.setCell ⟨g, 5, none⟩ (.int .u64 L')).drew := (hc.setCell (p := ⟨g, 5, none⟩) (fun _ => rfl) _).drew
      generalize (wr.setCell ⟨g, 5, none⟩ (.int .u64 L')).drew = w1 at *
      clear hL' hL2 hr hc
      have r6 := hr1.cell (i := 6) (by omega)
      have q6 := hr1.frozen 6
      simp [hasherF, sipF] at r6
      have hr2 := hasher_set6 hr1 ((k : Int) + 1)
      have hc2 : Chg (· = g) W (w1.setCell ⟨g, 6, none⟩ (.int .i64 ((k : Int) + 1))) := hc1.setCell (p := ⟨g, 6, none⟩) (fun _ => rfl) _
      by_cases h8 : (k + 1) % 8 = 0
      · have tm : Int.tmod ((k : Int) + 1) 8 = 0 := by rw [show ((k : Int) + 1) = ((k + 1 : Nat) : Int) by omega]; simp [Int.tmod]; omega
        rw [if_pos h8] at hR
        replace h8 := Lib.hid h8
        replace hR := Lib.hid hR.out
        clear hr1 hc1
        go_wp2_with fail
        clear r6 q6 tm
        generalize (w1.setCell ⟨g, 6, none⟩ (.int .i64 ((k : Int) + 1))) = w2 at *
        have r5 := hr2.cell (i := 5) (by omega)
        simp [hasherF, sipF] at r5
        refine wp_region_still_tail 7 (by kernel_rfl) (by kernel_rfl) ?_
        simp only [List.take_succ_cons, List.take_zero, List.drop_succ_cons, List.drop_zero]
        repeat still_step
        refine wpStill_nil ?_
        change wpList _ _ _ _ _ w2.drew
        have hr3 : w2.drew.rowIs g 177 7 (hasherF S L' ((k : Int) + 1)) := hr2.drew
        have hc3 : Chg (· = g) W w2.drew := hc2.drew
        generalize w2.drew = w3 at *
        clear hr2 hc2 r5
        go_wp2_with (go_at_call 146; refine (take_any g 1 _ 7 _ S L' _ hr3 (by omega)).mono ?_; rintro e w4 ⟨rfl, hr4, hc4⟩; have hr5 : w4.rowIs g 177 7 (hasherF (stake S L') L' ((k : Int) + 1)) := hr4; have r5 := hr5.cell (i := 5) (by omega); have q5 := hr5.frozen 5; simp [hasherF, sipF] at r5)
        go_roundw
        case rel =>
          exact ⟨k + 1, _, _, by omega, by go_num, hR.out, by simpa using hasher_set5 hr5 0, (hc3.trans hc4 (fun _ _ h => h)).setCell (p := ⟨g, 5, none⟩) (fun _ => rfl) _⟩
        case measure => simp [intOf]; omega
      · have tm : Int.tmod ((k : Int) + 1) 8 = (((k + 1) % 8 : Nat) : Int) := by rw [show ((k : Int) + 1) = ((k + 1 : Nat) : Int) by omega]; simp [Int.tmod]
        have tz : ((((k + 1) % 8 : Nat) : Int) == 0) = false := by simp; omega
        generalize hm : (k + 1) % 8 = m8 at *
        rw [if_neg h8] at hR
        replace h8 := Lib.hid h8
        replace hm := Lib.hid hm
        replace hR := Lib.hid hR
        clear hr1 hc1
        go_wp2_with fail
        go_roundw
        case rel => exact ⟨k + 1, _, _, by omega, by go_num, hR.out, by simpa using hr2, hc2⟩
        case measure => simp [intOf]; omega
    · have hlti : ¬ (k : Int) < (x.size : Int) := by omega
      obtain rfl : k = x.size := by omega
      replace hS := Lib.hid hS
      go_wp2_with fail
      go_end0
      rw [hS.out]
      exact ⟨rfl, hr, (hcW.mono (fun _ _ h => h.elim)).trans hc (fun _ _ h => h)⟩
end Go.Proofs.Ytdkcjfcjckpjcaa
