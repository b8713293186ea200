/- cloakroomref31: Right, Good, Kind, Reason, Firsts, Reasons. -/
import Derived.Test.YtdkcjfcjckpjcaaVerdictD
namespace Go.Proofs.Ytdkcjfcjckpjcaa
open Go Go.RowKit Go.Deep

set_option maxRecDepth 100000 in
set_option maxHeartbeats 1000000 in
theorem refright31 (v : Vd) (w : World) : Calls Try.prog 49 #[.agg v.cells] w fun e w' => e = .returned (.bool (vRight v)) ∧ Below w.heap.size w w' := by
  obtain ⟨k, er, b, c, f, s⟩ := v
  obtain ⟨R, hR⟩ : ∃ R, vRight ⟨k, er, b, c, f, s⟩ = R := ⟨_, rfl⟩
  rw [hR]
  unfold vRight noS at hR
  dsimp only at hR
  by_cases h1 : k = 1
  · subst h1
    replace hR := Lib.hid hR
    go_enter Try.func49, Try.ntmps49
    go_wp2
    all_goals go_ret
    all_goals refine ⟨ret_bool ?_, (by repeat (first | exact Below.refl _ _ | assumption | refine below_call2 (by assumption) ?_ (by first | omega | (simp; done) | (simp; omega) | (simp [World.setCell]; omega)) | refine below_drewN ?_ _ | refine Below.drew ?_ | refine Below.alloc ?_ (by first | omega | (simp; done) | (simp; omega) | (simp [World.setCell]; omega)) _ | refine Below.setCell ?_ (by first | omega | (simp; done) | (simp; omega) | (simp [World.setCell]; omega)) _))⟩
    all_goals rw [← hR.out]
    all_goals (first | (simp [*]; done) | (simp [*]; omega))
  by_cases h2 : k = 2 ∨ k = 3
  · replace hR := Lib.hid hR
    by_cases he : er < 1
    · rcases h2 with rfl | rfl
      · go_enter Try.func49, Try.ntmps49
        go_wp2
        all_goals go_ret
        all_goals refine ⟨ret_bool ?_, (by repeat (first | exact Below.refl _ _ | assumption | refine below_call2 (by assumption) ?_ (by first | omega | (simp; done) | (simp; omega) | (simp [World.setCell]; omega)) | refine below_drewN ?_ _ | refine Below.drew ?_ | refine Below.alloc ?_ (by first | omega | (simp; done) | (simp; omega) | (simp [World.setCell]; omega)) _ | refine Below.setCell ?_ (by first | omega | (simp; done) | (simp; omega) | (simp [World.setCell]; omega)) _))⟩
        all_goals rw [← hR.out]
        all_goals (first | (simp [*]; done) | (simp [*]; omega))
      · go_enter Try.func49, Try.ntmps49
        go_wp2
        all_goals go_ret
        all_goals refine ⟨ret_bool ?_, (by repeat (first | exact Below.refl _ _ | assumption | refine below_call2 (by assumption) ?_ (by first | omega | (simp; done) | (simp; omega) | (simp [World.setCell]; omega)) | refine below_drewN ?_ _ | refine Below.drew ?_ | refine Below.alloc ?_ (by first | omega | (simp; done) | (simp; omega) | (simp [World.setCell]; omega)) _ | refine Below.setCell ?_ (by first | omega | (simp; done) | (simp; omega) | (simp [World.setCell]; omega)) _))⟩
        all_goals rw [← hR.out]
        all_goals (first | (simp [*]; done) | (simp [*]; omega))
    by_cases he2 : 16 < er
    · rcases h2 with rfl | rfl
      · go_enter Try.func49, Try.ntmps49
        go_wp2
        all_goals go_ret
        all_goals refine ⟨ret_bool ?_, (by repeat (first | exact Below.refl _ _ | assumption | refine below_call2 (by assumption) ?_ (by first | omega | (simp; done) | (simp; omega) | (simp [World.setCell]; omega)) | refine below_drewN ?_ _ | refine Below.drew ?_ | refine Below.alloc ?_ (by first | omega | (simp; done) | (simp; omega) | (simp [World.setCell]; omega)) _ | refine Below.setCell ?_ (by first | omega | (simp; done) | (simp; omega) | (simp [World.setCell]; omega)) _))⟩
        all_goals rw [← hR.out]
        all_goals (first | (simp [*]; done) | (simp [*]; omega))
      · go_enter Try.func49, Try.ntmps49
        go_wp2
        all_goals go_ret
        all_goals refine ⟨ret_bool ?_, (by repeat (first | exact Below.refl _ _ | assumption | refine below_call2 (by assumption) ?_ (by first | omega | (simp; done) | (simp; omega) | (simp [World.setCell]; omega)) | refine below_drewN ?_ _ | refine Below.drew ?_ | refine Below.alloc ?_ (by first | omega | (simp; done) | (simp; omega) | (simp [World.setCell]; omega)) _ | refine Below.setCell ?_ (by first | omega | (simp; done) | (simp; omega) | (simp [World.setCell]; omega)) _))⟩
        all_goals rw [← hR.out]
        all_goals (first | (simp [*]; done) | (simp [*]; omega))
    have hx1 : 1 ≤ er := by omega
    have hx2 : er ≤ 16 := by omega
    clear he he2
    by_cases hb : b = 0
    · by_cases hc : c = 0
      · subst hb; subst hc
        cases f
        · rcases h2 with rfl | rfl
          · go_enter Try.func49, Try.ntmps49
            go_wp2
            all_goals go_ret
            all_goals refine ⟨ret_bool ?_, (by repeat (first | exact Below.refl _ _ | assumption | refine below_call2 (by assumption) ?_ (by first | omega | (simp; done) | (simp; omega) | (simp [World.setCell]; omega)) | refine below_drewN ?_ _ | refine Below.drew ?_ | refine Below.alloc ?_ (by first | omega | (simp; done) | (simp; omega) | (simp [World.setCell]; omega)) _ | refine Below.setCell ?_ (by first | omega | (simp; done) | (simp; omega) | (simp [World.setCell]; omega)) _))⟩
            all_goals rw [← hR.out]
            all_goals (first | (simp [*]; done) | (simp [*]; omega))
          · go_enter Try.func49, Try.ntmps49
            go_wp2
            all_goals go_ret
            all_goals refine ⟨ret_bool ?_, (by repeat (first | exact Below.refl _ _ | assumption | refine below_call2 (by assumption) ?_ (by first | omega | (simp; done) | (simp; omega) | (simp [World.setCell]; omega)) | refine below_drewN ?_ _ | refine Below.drew ?_ | refine Below.alloc ?_ (by first | omega | (simp; done) | (simp; omega) | (simp [World.setCell]; omega)) _ | refine Below.setCell ?_ (by first | omega | (simp; done) | (simp; omega) | (simp [World.setCell]; omega)) _))⟩
            all_goals rw [← hR.out]
            all_goals (first | (simp [*]; done) | (simp [*]; omega))
        · rcases h2 with rfl | rfl
          · go_enter Try.func49, Try.ntmps49
            go_wp2
            all_goals go_ret
            all_goals refine ⟨ret_bool ?_, (by repeat (first | exact Below.refl _ _ | assumption | refine below_call2 (by assumption) ?_ (by first | omega | (simp; done) | (simp; omega) | (simp [World.setCell]; omega)) | refine below_drewN ?_ _ | refine Below.drew ?_ | refine Below.alloc ?_ (by first | omega | (simp; done) | (simp; omega) | (simp [World.setCell]; omega)) _ | refine Below.setCell ?_ (by first | omega | (simp; done) | (simp; omega) | (simp [World.setCell]; omega)) _))⟩
            all_goals rw [← hR.out]
            all_goals (first | (simp [*]; done) | (simp [*]; omega))
          · go_enter Try.func49, Try.ntmps49
            go_wp2
            all_goals go_ret
            all_goals refine ⟨ret_bool ?_, (by repeat (first | exact Below.refl _ _ | assumption | refine below_call2 (by assumption) ?_ (by first | omega | (simp; done) | (simp; omega) | (simp [World.setCell]; omega)) | refine below_drewN ?_ _ | refine Below.drew ?_ | refine Below.alloc ?_ (by first | omega | (simp; done) | (simp; omega) | (simp [World.setCell]; omega)) _ | refine Below.setCell ?_ (by first | omega | (simp; done) | (simp; omega) | (simp [World.setCell]; omega)) _))⟩
            all_goals rw [← hR.out]
            all_goals (first | (simp [*]; done) | (simp [*]; omega))
      · subst hb
        have hc1 : (c == 0) = false := by simp [hc]
        have hc2 : (c != 0) = true := by simp [hc]
        rcases h2 with rfl | rfl
        · go_enter Try.func49, Try.ntmps49
          go_wp2
          all_goals go_ret
          all_goals refine ⟨ret_bool ?_, (by repeat (first | exact Below.refl _ _ | assumption | refine below_call2 (by assumption) ?_ (by first | omega | (simp; done) | (simp; omega) | (simp [World.setCell]; omega)) | refine below_drewN ?_ _ | refine Below.drew ?_ | refine Below.alloc ?_ (by first | omega | (simp; done) | (simp; omega) | (simp [World.setCell]; omega)) _ | refine Below.setCell ?_ (by first | omega | (simp; done) | (simp; omega) | (simp [World.setCell]; omega)) _))⟩
          all_goals rw [← hR.out]
          all_goals (first | (simp [*]; done) | (simp [*]; omega))
        · go_enter Try.func49, Try.ntmps49
          go_wp2
          all_goals go_ret
          all_goals refine ⟨ret_bool ?_, (by repeat (first | exact Below.refl _ _ | assumption | refine below_call2 (by assumption) ?_ (by first | omega | (simp; done) | (simp; omega) | (simp [World.setCell]; omega)) | refine below_drewN ?_ _ | refine Below.drew ?_ | refine Below.alloc ?_ (by first | omega | (simp; done) | (simp; omega) | (simp [World.setCell]; omega)) _ | refine Below.setCell ?_ (by first | omega | (simp; done) | (simp; omega) | (simp [World.setCell]; omega)) _))⟩
          all_goals rw [← hR.out]
          all_goals (first | (simp [*]; done) | (simp [*]; omega))
    · have hb1 : (b == 0) = false := by simp [hb]
      have hb2 : (b != 0) = true := by simp [hb]
      rcases h2 with rfl | rfl
      · go_enter Try.func49, Try.ntmps49
        go_wp2
        all_goals go_ret
        all_goals refine ⟨ret_bool ?_, (by repeat (first | exact Below.refl _ _ | assumption | refine below_call2 (by assumption) ?_ (by first | omega | (simp; done) | (simp; omega) | (simp [World.setCell]; omega)) | refine below_drewN ?_ _ | refine Below.drew ?_ | refine Below.alloc ?_ (by first | omega | (simp; done) | (simp; omega) | (simp [World.setCell]; omega)) _ | refine Below.setCell ?_ (by first | omega | (simp; done) | (simp; omega) | (simp [World.setCell]; omega)) _))⟩
        all_goals rw [← hR.out]
        all_goals (first | (simp [*]; done) | (simp [*]; omega))
      · go_enter Try.func49, Try.ntmps49
        go_wp2
        all_goals go_ret
        all_goals refine ⟨ret_bool ?_, (by repeat (first | exact Below.refl _ _ | assumption | refine below_call2 (by assumption) ?_ (by first | omega | (simp; done) | (simp; omega) | (simp [World.setCell]; omega)) | refine below_drewN ?_ _ | refine Below.drew ?_ | refine Below.alloc ?_ (by first | omega | (simp; done) | (simp; omega) | (simp [World.setCell]; omega)) _ | refine Below.setCell ?_ (by first | omega | (simp; done) | (simp; omega) | (simp [World.setCell]; omega)) _))⟩
        all_goals rw [← hR.out]
        all_goals (first | (simp [*]; done) | (simp [*]; omega))
  · have k1 : (k == 1) = false := by simp [h1]
    have k2 : (k == 2) = false := by simp; omega
    have k3 : (k == 3) = false := by simp; omega
    have k4 : (k != 2) = true := by simp; omega
    have k5 : (k != 3) = true := by simp; omega
    have hR0 : R = false := by rw [← hR, k1, k2, k3]; rfl
    subst hR0
    clear hR
    go_enter Try.func49, Try.ntmps49
    go_wp2
    all_goals go_ret
    all_goals exact ⟨rfl, (by repeat (first | exact Below.refl _ _ | assumption | refine below_call2 (by assumption) ?_ (by first | omega | (simp; done) | (simp; omega) | (simp [World.setCell]; omega)) | refine below_drewN ?_ _ | refine Below.drew ?_ | refine Below.alloc ?_ (by first | omega | (simp; done) | (simp; omega) | (simp [World.setCell]; omega)) _ | refine Below.setCell ?_ (by first | omega | (simp; done) | (simp; omega) | (simp [World.setCell]; omega)) _))⟩

theorem info_vd : (Try.prog.info? 60).map (fun i => (i.zero, i.size, i.bytes)) = some (some (.agg #[.int .i64 0, .int .i64 0, .int .i64 0, .int .u64 0, .bool false, .string ⟨#[]⟩]), 6, 56) := by kernel_rfl
theorem reads_lits (w : World) (B m n : Nat) (t : TypeId) (xs : List Value) (hl : xs.length = n * m) (hB : w.heap.size < B) : Reads (w.alloc (.cells xs.toArray t)) B m (some ⟨w.heap.size, 0, none⟩) n xs := by
  refine ⟨hl, fun _ => ⟨_, rfl, hB, fun j u hu => ?_⟩⟩
  have e : (⟨w.heap.size, 0, none⟩ : Addr).add j = ⟨w.heap.size, j, none⟩ := by unfold Addr.add; split <;> simp_all
  rw [e, (Blk.new w t xs.toArray).cell j]
  simpa using hu

theorem vcells_one (l : List Vd) : ∀ u ∈ vcells l, u.oneCell' = true := by
  intro u hu
  obtain ⟨v, _, hv⟩ := List.mem_flatMap.1 hu
  simp at hv
  rcases hv with rfl | rfl | rfl | rfl | rfl | rfl <;> rfl
theorem VR.six {w : World} {B : Nat} {ad : Addr} {l : List Vd} {k : Nat} {v : Vd} (h : Reads w B 6 (some ad) l.length (vcells l)) (hv : l[k]? = some v) :
    w.cell? (ad.add (k * 6)) = some (.int .i64 v.k) ∧ w.cell? ⟨(ad.add (k * 6)).block, (ad.add (k * 6)).off + 1, none⟩ = some (.int .i64 v.e) ∧
      w.cell? ⟨(ad.add (k * 6)).block, (ad.add (k * 6)).off + 2, none⟩ = some (.int .i64 v.b) ∧ w.cell? ⟨(ad.add (k * 6)).block, (ad.add (k * 6)).off + 3, none⟩ = some (.int .u64 v.c) ∧
      w.cell? ⟨(ad.add (k * 6)).block, (ad.add (k * 6)).off + 4, none⟩ = some (.bool v.f) ∧ w.cell? ⟨(ad.add (k * 6)).block, (ad.add (k * 6)).off + 5, none⟩ = some (.string v.s) := by
  obtain ⟨ad', v', e, _, hv', h⟩ := VR.at_ h (List.getElem?_eq_some_iff.1 hv).1
  cases e
  rw [hv] at hv'
  cases hv'
  exact h
def goodTo (l : List Vd) (k : Nat) : List Vd := (l.take k).filter vRight
theorem goodTo_succ {l : List Vd} {k : Nat} {v : Vd} (h : l[k]? = some v) : goodTo l (k + 1) = goodTo l k ++ if vRight v then [v] else [] := by
  unfold goodTo
  rw [List.take_add_one, h, List.filter_append]
  congr 1
  cases hp : vRight v <;> simp [hp]
theorem goodTo_len (l : List Vd) (k : Nat) : (goodTo l k).length ≤ k := by
  have h1 := List.length_filter_le vRight (l.take k)
  rw [List.length_take] at h1
  unfold goodTo
  omega

set_option maxRecDepth 100000 in
set_option maxHeartbeats 2000000 in
theorem good_any (A : Option Addr) (c : Nat) (l : List Vd) (w : World) (hr : Reads w w.heap.size 6 A l.length (vcells l)) (hf : l.length ≤ 30) :
    Calls Try.prog 50 #[.slice A l.length c] w fun e w' => ∃ A' c', e = .returned (.slice A' (goodTo l l.length).length c') ∧ w'.ownsRow w.heap.size 60 6 (.slice A' (goodTo l l.length).length c') (goodTo l l.length).length (vcells (goodTo l l.length)) ∧ Below w.heap.size w w' := by
  obtain ⟨i0, hi0, hz0, hz1, hz2⟩ := info_parts info_vd
  go_enter Try.func50, Try.ntmps50
  go_wp2_with fail
  go_loopw [3, 4] (fun s i wr => ∃ (k : Nat) (A' : Option Addr) (c' : Nat), k ≤ l.length ∧ i = .int .i64 (k : Int) ∧ s = .slice A' (goodTo l k).length c' ∧ wr.ownsRow w.heap.size 60 6 (.slice A' (goodTo l k).length c') (goodTo l k).length (vcells (goodTo l k)) ∧ Below w.heap.size w wr) (fun _ i _ => l.length - (intOf i).toNat)
  case atStart => exact ⟨0, none, 0, by omega, rfl, rfl, World.ownsRow_nil _ _ _ _, Below.refl _ _⟩
  case round =>
    obtain ⟨k, A', c', hk, rfl, rfl, hown, hbw⟩ := hrel
    have hlen := goodTo_len l k
    obtain ⟨n, hn⟩ : ∃ n, n = (goodTo l k).length := ⟨_, rfl⟩
    rw [← hn] at hown hlen ⊢
    by_cases hlt : k < l.length
    · have hlti : (k : Int) < (l.length : Int) := by omega
      obtain ⟨ad, v, rfl, had, hv, c0, c1, c2, c3, c4, c5⟩ := VR.at_ (hr.below hbw) hlt
      have hsucc := goodTo_succ hv
      have hbz := hbw.size
      have hr0 := hr
      replace hr0 := Lib.hid hr0
      clear hr
      rcases hRt : vRight v with _ | _
      · rw [hRt] at hsucc
        have C := refright31 v wr
        rw [hRt] at C
        replace hsucc := Lib.hid hsucc
        replace hn := Lib.hid hn
        replace C := Lib.hid C
        go_wp2_with (go_at_call 49; refine C.out.mono ?_; rintro e w1 ⟨rfl, hb1⟩)
        go_roundw
        case rel =>
          have e1 : goodTo l (k + 1) = goodTo l k := by rw [hsucc.out]; simp
          exact ⟨k + 1, A', c', by omega, by go_num, by rw [e1, ← hn.out], by rw [e1, ← hn.out]; exact ownsRow_chg hown (Chg.of_below hb1 (F := fun _ => False)) (fun _ _ h => h), hbw.trans (hb1.mono hbz)⟩
        case measure => simp [intOf]; omega
      · rw [hRt] at hsucc
        have C := refright31 v wr
        rw [hRt] at C
        replace hsucc := Lib.hid hsucc
        replace hn := Lib.hid hn
        replace C := Lib.hid C
        have hr1 := (hr0.out.below hbw)
        go_wp2_with (first | (go_at_call 49; refine C.out.mono ?_; rintro e w1 ⟨rfl, hb1⟩; obtain ⟨d0, d1, d2, d3, d4, d5⟩ := VR.six (hr1.below (hb1.mono hbz)) hv) | (at_builtin; refine wpList_append_sl _ rfl (.tmp 16) (.tmp 21) 49 rfl w.heap.size 60 i0 _ 6 56 Try.underlying49 hi0 hz0 hz1 hz2 rfl (by decide) (.slice A' n c') n (vcells (goodTo l k)) rfl ((ownsRow_chg hown (Chg.of_below hb1 (F := fun _ => False)) (fun _ _ h => h)).alloc (.cells v.cells 60)) (w1.heap.size + 1) (some ⟨w1.heap.size, 0, none⟩) 1 1 v.cells.toList rfl (reads_lits w1 _ 6 1 _ v.cells.toList rfl (by omega)) (fun u hu => vcells_one [v] u (by simpa [vcells] using hu)) (by unfold maxLen; omega) (by omega) (by have := hb1.size; simp; omega) ?_; intro A1 cp1 w2 hown2 hg1 hat1))
        have hbz1 := hb1.size
        have hz3 := hg1.size
        rw [World.size_alloc] at hz3
        go_roundw
        case rel =>
          have e1 : goodTo l (k + 1) = goodTo l k ++ [v] := by rw [hsucc.out]; simp
          have hl : (goodTo l (k + 1)).length = n + 1 := by rw [e1, hn.out]; simp
          refine ⟨k + 1, A1, cp1, by omega, by go_num, by rw [hl], ?_, ?_⟩
          · rw [hl, e1, vcells_append]; simpa [vcells] using hown2
          · exact ((hbw.trans (hb1.mono hbz)).alloc (by omega) _).grown hg1 (by simp; omega) (fun j hj => by have := (hown.lt _ hj).1; omega)
        case measure => simp [intOf]; omega
    · obtain rfl : k = l.length := by omega
      have hlti : ¬ (l.length : Int) < (l.length : Int) := by omega
      replace hn := Lib.hid hn
      go_wp2_with fail
      go_ret
      rw [← hn.out]
      exact ⟨_, _, rfl, hown, hbw⟩
end Go.Proofs.Ytdkcjfcjckpjcaa
