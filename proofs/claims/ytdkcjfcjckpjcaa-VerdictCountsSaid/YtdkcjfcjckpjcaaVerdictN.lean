/- verdict: Name. -/
import Derived.Test.YtdkcjfcjckpjcaaVerdictB
namespace Go.Proofs.Ytdkcjfcjckpjcaa
open Go Go.RowKit Go.Deep
/-! Names. -/
def vNames : List ByteArray := [⟨#[111, 107]⟩, ⟨#[97, 114, 103, 117, 109, 101, 110, 116]⟩, ⟨#[115, 104, 111, 114, 116]⟩, ⟨#[102, 111, 114, 109]⟩, ⟨#[115, 117, 109]⟩, ⟨#[108, 111, 110, 103]⟩, ⟨#[112, 114, 111, 116, 111, 99, 111, 108]⟩, ⟨#[102, 114, 97, 103, 109, 101, 110, 116]⟩, ⟨#[110, 111, 110, 101]⟩, ⟨#[102, 117, 108, 108]⟩, ⟨#[115, 116, 97, 108, 101]⟩, ⟨#[115, 116, 97, 116, 101]⟩, ⟨#[116, 104, 101, 114, 101]⟩, ⟨#[103, 111, 110, 101]⟩, ⟨#[100, 111, 119, 110]⟩, ⟨#[114, 97, 110, 103, 101]⟩, ⟨#[97, 100, 100, 114, 101, 115, 115]⟩]
def vName (e : Int) : ByteArray := if 0 ≤ e ∧ e ≤ 16 then vNames.getD e.toNat ⟨#[]⟩ else ⟨#[117, 110, 107, 110, 111, 119, 110]⟩
theorem name_in (k : Nat) (h : k < 17) (w : World) : Calls Try.prog 60 #[.int .i64 k] w fun e w' => e = .returned (.string (vNames.getD k ⟨#[]⟩)) ∧ Below w.heap.size w w' := by
  obtain ⟨s, hs⟩ : ∃ s, vNames.getD k ⟨#[]⟩ = s := ⟨_, rfl⟩
  rw [hs]
  have hc : ∀ i, i < 17 → (vNames.map Value.string)[i]? = some (.string (vNames.getD i ⟨#[]⟩)) := fun i hi => by
    have : i < vNames.length := hi
    rw [List.getElem?_map, List.getElem?_eq_getElem this, List.getD_eq_getElem?_getD, List.getElem?_eq_getElem this]
    rfl
  have h2 := hc k h
  rw [hs] at h2
  have hk : (k : Int) < 17 := by omega
  have hk6 : (k : Int) ≤ 16 := by omega
  clear hc hs
  replace h2 := Lib.hid h2
  by_cases h0 : (k : Int) = 0
  · have b0 : ((k : Int) != 0) = false := by simp [h0]
    clear h0
    go_enter Try.func60, Try.ntmps60
    go_wp2_with fail
    go_ret
    exact ⟨congrArg Ending.returned (Option.some.inj ((List.getElem?_eq_getElem (l := vNames.map Value.string) _).symm.trans h2.out)), (by repeat (first | exact Below.refl _ _ | assumption | refine below_call2 (by assumption) ?_ (by first | omega | (simp; done) | (simp; omega) | (simp [World.setCell]; omega)) | refine below_drewN ?_ _ | refine Below.drew ?_ | refine Below.alloc ?_ (by first | omega | (simp; done) | (simp; omega) | (simp [World.setCell]; omega)) _ | refine Below.setCell ?_ (by first | omega | (simp; done) | (simp; omega) | (simp [World.setCell]; omega)) _))⟩
  · have b0 : ((k : Int) != 0) = true := by simp; omega
    have C := fun W => known_yes (k : Int) W (by omega) hk6
    replace C := Lib.hid C
    replace h0 := Lib.hid h0
    go_enter Try.func60, Try.ntmps60
    go_wp2_with (go_at_call 105; refine (C.out _).mono ?_; rintro e w' ⟨rfl, rfl⟩)
    go_ret
    exact ⟨congrArg Ending.returned (Option.some.inj ((List.getElem?_eq_getElem (l := vNames.map Value.string) _).symm.trans h2.out)), (by repeat (first | exact Below.refl _ _ | assumption | refine below_call2 (by assumption) ?_ (by first | omega | (simp; done) | (simp; omega) | (simp [World.setCell]; omega)) | refine below_drewN ?_ _ | refine Below.drew ?_ | refine Below.alloc ?_ (by first | omega | (simp; done) | (simp; omega) | (simp [World.setCell]; omega)) _ | refine Below.setCell ?_ (by first | omega | (simp; done) | (simp; omega) | (simp [World.setCell]; omega)) _))⟩
theorem name_any (e : Int) (w : World) : Calls Try.prog 60 #[.int .i64 e] w fun x w' => x = .returned (.string (vName e)) ∧ Below w.heap.size w w' := by
  unfold vName
  by_cases h : 0 ≤ e ∧ e ≤ 16
  · rw [if_pos h]
    obtain ⟨k, rfl⟩ : ∃ k : Nat, e = k := ⟨e.toNat, by omega⟩
    exact name_in k (by omega) w
  · rw [if_neg h]
    have b0 : (e != 0) = true := by simp; omega
    have C := fun W => known_no e W (by omega)
    replace C := Lib.hid C
    replace h := Lib.hid h
    go_enter Try.func60, Try.ntmps60
    go_wp2_with (go_at_call 105; refine (C.out _).mono ?_; rintro e w' ⟨rfl, rfl⟩)
    go_ret
    exact ⟨rfl, (by repeat (first | exact Below.refl _ _ | assumption | refine below_call2 (by assumption) ?_ (by first | omega | (simp; done) | (simp; omega) | (simp [World.setCell]; omega)) | refine below_drewN ?_ _ | refine Below.drew ?_ | refine Below.alloc ?_ (by first | omega | (simp; done) | (simp; omega) | (simp [World.setCell]; omega)) _ | refine Below.setCell ?_ (by first | omega | (simp; done) | (simp; omega) | (simp [World.setCell]; omega)) _))⟩
end Go.Proofs.Ytdkcjfcjckpjcaa
