/- verdict: few, board, Reasons. -/
import Derived.Test.YtdkcjfcjckpjcaaVerdictB
import Derived.Test.YtdkcjfcjckpjcaaFT
namespace Go.Proofs.Ytdkcjfcjckpjcaa
open Go Go.RowKit Go.Deep

def vcells (l : List Vd) : List Value := l.flatMap fun v => v.cells.toList
theorem vcells_len : ∀ l : List Vd, (vcells l).length = l.length * 6
  | [] => rfl
  | v :: l => by
    have := vcells_len l
    unfold vcells at *
    rw [List.flatMap_cons, List.length_append, this]
    simp only [List.length_cons, List.length_nil]
    omega
theorem vcells_at : ∀ (l : List Vd) (k j : Nat) (v : Vd), l[k]? = some v → j < 6 → (vcells l)[k * 6 + j]? = v.cells.toList[j]?
  | [], k, j, v, h, _ => by simp at h
  | u :: l, 0, j, v, h, hj => by
    simp at h; subst h
    unfold vcells
    rw [List.flatMap_cons, List.getElem?_append_left (by simp; omega)]
    simp
  | u :: l, k + 1, j, v, h, hj => by
    simp at h
    have := vcells_at l k j v h hj
    unfold vcells at *
    rw [List.flatMap_cons, List.getElem?_append_right (by simp; omega), ← this]
    congr 1
    simp; omega
theorem vcells_append (a b : List Vd) : vcells (a ++ b) = vcells a ++ vcells b := by simp [vcells]

theorem VR.at_ {w : World} {B : Nat} {A : Option Addr} {l : List Vd} (h : Reads w B 6 A l.length (vcells l)) {k : Nat} (hk : k < l.length) :
    ∃ ad v, A = some ad ∧ ad.block < B ∧ l[k]? = some v ∧ w.cell? (ad.add (k * 6)) = some (.int .i64 v.k) ∧ w.cell? ⟨(ad.add (k * 6)).block, (ad.add (k * 6)).off + 1, none⟩ = some (.int .i64 v.e) ∧
      w.cell? ⟨(ad.add (k * 6)).block, (ad.add (k * 6)).off + 2, none⟩ = some (.int .i64 v.b) ∧ w.cell? ⟨(ad.add (k * 6)).block, (ad.add (k * 6)).off + 3, none⟩ = some (.int .u64 v.c) ∧
      w.cell? ⟨(ad.add (k * 6)).block, (ad.add (k * 6)).off + 4, none⟩ = some (.bool v.f) ∧ w.cell? ⟨(ad.add (k * 6)).block, (ad.add (k * 6)).off + 5, none⟩ = some (.string v.s) := by
  obtain ⟨ad, rfl, hb, hc⟩ := h.2 (by omega)
  have hm : ∀ j, j < 6 → w.cell? ((ad.add (k * 6)).add j) = (l[k]).cells.toList[j]? := by
    intro j hj
    have h1 := vcells_at l k j _ (List.getElem?_eq_getElem hk) hj
    rw [add_of_add]
    have h2 : (l[k]).cells.toList[j]? = some ((l[k]).cells.toList[j]'(by simp; omega)) := List.getElem?_eq_getElem _
    rw [h2]
    exact hc _ _ (h1.trans h2)
  exact ⟨ad, l[k], rfl, hb, List.getElem?_eq_getElem hk, hm 0 (by omega), hm 1 (by omega), hm 2 (by omega), hm 3 (by omega), hm 4 (by omega), hm 5 (by omega)⟩

def fewP (l : List Vd) : Prop := l.length ≤ 30 ∧ ∀ v ∈ l, v.s.size ≤ 100

def FewR (l : List Vd) (e : Ending) : Prop := ∃ R, e = .returned (.bool R) ∧ (R = true → fewP l)
theorem few_any (A : Option Addr) (c : Nat) (l : List Vd) (w : World) (hr : Reads w w.heap.size 6 A l.length (vcells l)) (hs : ∀ v ∈ l, v.s.size ≤ 9223372036854775807) (hl : l.length ≤ 9223372036854775807) :
    Calls Try.prog 43 #[.slice A l.length c] w fun e w' => FewR l e ∧ w = w' := by
  go_enter Try.func43, Try.ntmps43
  go_wp2_with fail
  go_loop [3] (fun i => ∃ k, k ≤ l.length ∧ k ≤ 30 ∧ i = .int .i64 (k : Nat) ∧ ∀ v ∈ l.take k, v.s.size ≤ 100) (fun i => l.length - (intOf i).toNat)
  case atStart => exact ⟨0, by omega, by omega, rfl, by simp⟩
  case round =>
    obtain ⟨k, hk, hk3, rfl, hall⟩ := hrel
    by_cases hlt : k < l.length
    · have hlti : (k : Int) < (l.length : Int) := by omega
      by_cases h30 : k < 30
      · have h30i : (k : Int) < 30 := by omega
        obtain ⟨ad, v, rfl, had, hv, c0, c1, c2, c3, c4, c5⟩ := VR.at_ hr hlt
        clear c0 c1 c2 c3 c4
        have hvs := hs v (List.mem_of_getElem? hv)
        by_cases hbig : 100 < v.s.size
        · have hbi : 100 < (v.s.size : Int) := by omega
          go_wp2_with fail
          go_ret
          exact ⟨⟨_, rfl, by simp⟩, rfl⟩
        · have hbi : ¬ 100 < (v.s.size : Int) := by omega
          go_wp2_with fail
          go_round
          case rel =>
            refine ⟨k + 1, by omega, by omega, by go_num, ?_⟩
            intro u hu
            rw [List.take_add_one, hv] at hu
            rcases List.mem_append.1 hu with h | h
            · exact hall u h
            · simp at h; subst h; omega
          case measure => simp [intOf]; omega
      · have h30i : ¬ (k : Int) < 30 := by omega
        go_wp2_with fail
        go_ret
        refine ⟨⟨_, rfl, fun h => ?_⟩, rfl⟩
        have : l.length ≤ 30 := by simp at h; omega
        omega
    · have hlti : ¬ (k : Int) < (l.length : Int) := by omega
      go_wp2_with fail
      go_ret
      refine ⟨⟨_, rfl, fun h => ?_⟩, rfl⟩
      have h30 : l.length ≤ 30 := by simp at h; omega
      rw [List.take_of_length_le (by omega)] at hall
      exact ⟨h30, hall⟩

def stepB (f : Nat → Int) (v : Vd) : Nat → Int := if vRight v then putB f v else f
def boardOf (l : List Vd) : Nat → Int := l.foldl stepB (fun _ => 0)
theorem boardOf_succ {l : List Vd} {k : Nat} {v : Vd} (h : l[k]? = some v) : boardOf (l.take (k + 1)) = stepB (boardOf (l.take k)) v := by
  rw [List.take_add_one, h]
  simp [boardOf, List.foldl_append]
theorem stepB_bd {f : Nat → Int} {B : Int} (h : ∀ i, 0 ≤ f i ∧ f i ≤ B) {v : Vd} (hs : v.s.size ≤ 100) : ∀ i, 0 ≤ stepB f v i ∧ stepB f v i ≤ B + 103 := by
  unfold stepB
  split
  · have h3 := bump_bd (bump_bd (bump_bd h v.k.toNat 1 (by omega)) (4 + v.e.toNat) 1 (by omega)) 22 (v.s.size : Int) (by omega)
    unfold putB
    intro i
    split
    · have := bump_bd h3 21 1 (by omega) i
      omega
    · have := h3 i
      omega
  · intro i; have := h i; omega
theorem boardOf_bd : ∀ (l : List Vd) (f : Nat → Int) (B : Int), (∀ v ∈ l, v.s.size ≤ 100) → (∀ i, 0 ≤ f i ∧ f i ≤ B) → ∀ i, 0 ≤ l.foldl stepB f i ∧ l.foldl stepB f i ≤ B + 103 * l.length
  | [], f, B, _, h => by intro i; have := h i; simpa using this
  | v :: l, f, B, hs, h => by
    intro i
    have := boardOf_bd l (stepB f v) (B + 103) (fun u hu => hs u (by simp [hu])) (stepB_bd h (hs v (by simp))) i
    simp only [List.foldl_cons, List.length_cons]
    omega
theorem boardOf_few {l : List Vd} (h : fewP l) (k : Nat) (i : Nat) : 0 ≤ boardOf (l.take k) i ∧ boardOf (l.take k) i ≤ 4000 := by
  have := boardOf_bd (l.take k) (fun _ => 0) 0 (fun v hv => h.2 v (List.mem_of_mem_take hv)) (fun _ => by simp) i
  have h2 := h.1
  have : (l.take k).length ≤ 30 := by rw [List.length_take]; omega
  unfold boardOf
  omega

theorem BoardP.below {w w' : World} {B g : Nat} {f : Nat → Int} (h : BoardP w g f) (hb : Below B w w') (hg : g < B) : BoardP w' g f := h.of_block (hb.block g hg)
theorem BoardP.lt {w : World} {g : Nat} {f : Nat → Int} (h : BoardP w g f) : g < w.heap.size := World.rowIs.lt h
theorem board_new (w : World) : BoardP (w.alloc (.cells (Array.replicate 23 (.int .i64 0)) 77)) w.heap.size (fun _ => 0) := by
  unfold BoardP
  exact ⟨_, Blk.new w _ _, by simp, fun i hi => by simp [hi]⟩

set_option maxHeartbeats 1000000 in
theorem board_any (A : Option Addr) (c : Nat) (l : List Vd) (w : World) (hr : Reads w w.heap.size 6 A l.length (vcells l)) (hf : fewP l) :
    Calls Try.prog 45 #[.slice A l.length c] w fun e w' => ∃ g, e = .returned (.pointer (some ⟨g, 0, none⟩)) ∧ BoardP w' g (boardOf l) ∧ Below w.heap.size w w' ∧ w.heap.size ≤ g := by
  have hN := board_new w
  go_enter Try.func45, Try.ntmps45
  go_wp2_with fail
  go_loopw [4] (fun i wr => ∃ k, k ≤ l.length ∧ i = .int .i64 (k : Nat) ∧ BoardP wr w.heap.size (boardOf (l.take k)) ∧ Below w.heap.size w wr) (fun i _ => l.length - (intOf i).toNat)
  case atStart => exact ⟨0, by omega, rfl, hN, (by repeat (first | exact Below.refl _ _ | assumption | refine below_call2 (by assumption) ?_ (by first | omega | (simp; done) | (simp; omega) | (simp [World.setCell]; omega)) | refine below_drewN ?_ _ | refine Below.drew ?_ | refine Below.alloc ?_ (by first | omega | (simp; done) | (simp; omega) | (simp [World.setCell]; omega)) _ | refine Below.setCell ?_ (by first | omega | (simp; done) | (simp; omega) | (simp [World.setCell]; omega)) _))⟩
  case round =>
    obtain ⟨k, hk, rfl, hB, hbw⟩ := hrel
    clear hN
    have hl30 := hf.1
    by_cases hlt : k < l.length
    · have hlti : (k : Int) < (l.length : Int) := by omega
      obtain ⟨ad, v, rfl, had, hv, c0, c1, c2, c3, c4, c5⟩ := VR.at_ (hr.below hbw) hlt
      have hvs := hf.2 v (List.mem_of_getElem? hv)
      have hbd := boardOf_few hf k
      obtain ⟨f, hfe⟩ : ∃ f, f = boardOf (l.take k) := ⟨_, rfl⟩
      rw [← hfe] at hB hbd
      replace hfe := Lib.hid hfe
      have hbw1 := hbw.size
      clear hr
      go_wp2_with (first
        | (go_at_call 48; refine (of_v v _).mono ?_; rintro e w1 ⟨rfl, hb1⟩)
        | (go_at_call 62; refine (put_any w.heap.size f v _ (by first | exact hB | exact BoardP.below hB hb1 hB.lt) (fun i => by have := hbd i; omega) (by omega)).mono ?_; rintro e w2 ⟨rfl, hB2, hc2⟩))
      have hb2 := hb1.size
      go_roundw
      case rel =>
        refine ⟨k + 1, by omega, by go_num, ?_, ?_⟩
        · rw [boardOf_succ hv, ← hfe.out]; exact hB2
        · exact below_chg (hbw.trans (hb1.mono (by omega))) hc2 (fun b h e => by omega) (by omega)
      case measure => simp [intOf]; omega
    · have hlti : ¬ (k : Int) < (l.length : Int) := by omega
      rw [List.take_of_length_le (by omega)] at hB
      go_wp2_with fail
      go_ret
      exact ⟨_, rfl, hB, hbw, by omega⟩
end Go.Proofs.Ytdkcjfcjckpjcaa
