/- verdict: awake, VerdictWhole. -/
import Derived.Test.YtdkcjfcjckpjcaaVerdictD
import Derived.Test.YtdkcjfcjckpjcaaVerdictN
namespace Go.Proofs.Ytdkcjfcjckpjcaa
open Go Go.RowKit Go.Deep

theorem kindS (g : Nat) (f : Nat → Int) (k : Nat) (y : Int) (w : World) (h : BoardP w g f) (hk : k < 4) (hy : f k = y) :
    Calls Try.prog 53 #[.pointer (some ⟨g, 0, none⟩), .int .i64 (k : Nat)] w fun e w' => e = .returned (.int .i64 y) ∧ w = w' := by
  subst hy
  have := kind_any g f k w h
  rwa [if_pos (by omega)] at this

def vStale : Vd := ⟨3, 10, 0, 0, false, ⟨#[]⟩⟩
def vBad : Vd := ⟨1, 0, 0, 0, false, ⟨#[]⟩⟩
def vOne : Vd := ⟨3, 1, 0, 0, false, ⟨#[]⟩⟩

set_option maxRecDepth 100000 in
set_option maxHeartbeats 2000000 in
theorem awake31 (w : World) : Calls Try.prog 44 #[] w fun e w' => e = .returned (.bool true) ∧ Below w.heap.size w w' := by
  have hN := board_new w
  go_enter Try.func44, Try.ntmps44
  go_wp2_with fail
  refine (put_any w.heap.size (fun _ => 0) vStale _ hN (fun _ => by omega) (by decide)).mono ?_
  rintro e w1 ⟨rfl, hB, hc⟩
  have hb : Below w.heap.size w w1 := below_chg ((by repeat (first | exact Below.refl _ _ | assumption | refine below_call2 (by assumption) ?_ (by first | omega | (simp; done) | (simp; omega) | (simp [World.setCell]; omega)) | refine below_drewN ?_ _ | refine Below.drew ?_ | refine Below.alloc ?_ (by first | omega | (simp; done) | (simp; omega) | (simp [World.setCell]; omega)) _ | refine Below.setCell ?_ (by first | omega | (simp; done) | (simp; omega) | (simp [World.setCell]; omega)) _))) hc (fun b h e => by omega) (by simp)
  have hR1 : vRight vStale = true := by decide +kernel
  rw [hR1, if_pos rfl] at hB
  obtain ⟨f, hf⟩ : ∃ f, f = putB (fun _ => 0) vStale := ⟨_, rfl⟩
  have e3 : f 3 = 1 := by rw [hf]; decide +kernel
  have e14 : RS f 10 = 1 := by rw [hf]; decide +kernel
  rw [← hf] at hB
  clear hf hc hN
  rw [hR1]
  go_wp2_with fail
  refine (put_no w.heap.size vBad w1 (by decide +kernel)).mono ?_
  rintro e w2 ⟨rfl, hb2⟩
  have hs1 := hb.size
  have hB2 := hB.below hb2 hB.lt
  replace hb := below_call hb hb.size hb2
  clear hB hb2 hs1
  go_wp2_with fail
  refine (add_nil1 _ w2).mono ?_
  rintro e w' ⟨rfl, rfl⟩
  go_wp2_with fail
  refine (add_nil2 _ w2).mono ?_
  rintro e w' ⟨rfl, rfl⟩
  go_wp2_with fail
  refine (kindS _ f 3 1 w2 hB2 (by decide) e3).mono ?_
  rintro e w' ⟨rfl, rfl⟩
  go_wp2_with fail
  refine (reasonS _ f 10 1 w2 hB2 e14).mono ?_
  rintro e w' ⟨rfl, rfl⟩
  go_wp2_with fail
  refine (name_any 10 w2).mono ?_
  rintro e w3 ⟨rfl, hb3⟩
  replace hb := below_call hb hb.size hb3
  clear hb3 hB2 e3 e14
  have hn : vName 10 = ⟨#[115, 116, 97, 108, 101]⟩ := by decide +kernel
  rw [hn]
  go_wp2_with fail
  refine (put_nil vOne w3).mono ?_
  rintro e w4 ⟨rfl, hb3⟩
  replace hb := below_call hb hb.size hb3
  clear hb3 hn
  go_wp2_with (first
    | (go_at_call 53; refine (kind_nil _ _).mono ?_; rintro e w' ⟨rfl, rfl⟩)
    | (go_at_call 55; refine (reason_nil _ _).mono ?_; rintro e w' ⟨rfl, rfl⟩)
    | (go_at_call 57; refine (firsts_nil _).mono ?_; rintro e w' ⟨rfl, rfl⟩)
    | (go_at_call 58; refine (bytes_nil _).mono ?_; rintro e w' ⟨rfl, rfl⟩)
    | (go_at_call 52; refine (reasons_nil _).mono ?_; rintro e w' ⟨rfl, rfl⟩))
  go_ret
  exact ⟨rfl, hb⟩
end Go.Proofs.Ytdkcjfcjckpjcaa
