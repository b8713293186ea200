/- The reference's addresses: Parts, Number. -/
import Derived.Test.YtodbgjnccngljaaDoorAdL
import Derived.Test.YtodbgjnccngljaaDoorAdM
namespace Go.Proofs.YtodbgjnccngljaaDoor
open Go Go.RowKit Go.Deep

abbrev scell (p : List UInt8) : List Value := [.string ⟨p.toArray⟩]
theorem scell_one (p : List UInt8) : ∀ u ∈ scell p, u.oneCell' = true := by intro u hu; simp at hu; subst hu; rfl
theorem info_str : (Tryd.prog.info? 9).map (fun i => (i.zero, i.size, i.bytes)) = some (some (.string ByteArray.empty), 1, 16) := by kernel_rfl
abbrev OwnS (w : World) (base : Nat) (A : Option Addr) (c : Nat) (l : List (List UInt8)) : Prop := OwnA scell 1 9 w base A c l
theorem slice_from (l : List UInt8) (a : Nat) (W : World) (h : a ≤ l.length) :
    (Instr.slice 9 (.string ⟨l.toArray⟩) (some (.int .i64 (a : Int))) none none).run Tryd.prog W = .ok (.string ⟨(l.drop a).toArray⟩) W := by
  rw [run_slice_string_from_if W 9 ⟨l.toArray⟩ .i64 (a : Int) Tryd.underlying9, if_pos ⟨by omega, by rw [str_size]; omega⟩]
  rw [Int.toNat_natCast, str_size, ByteArray.extract_mk]
  rw [List.take_of_length_le (by simp)]
theorem scell_flat (l : List (List UInt8)) : l.flatMap scell = l.map fun p => Value.string ⟨p.toArray⟩ := by
  induction l with
  | nil => rfl
  | cons x t ih => rw [List.flatMap_cons, ih]; rfl
theorem own_at {w : World} {base : Nat} {A : Option Addr} {c : Nat} {l : List (List UInt8)} (h : OwnS w base A c l) {k : Nat} (hk : k < l.length) : ∃ ad, A = some ad ∧ ad.block < w.heap.size ∧ w.cell? (ad.add k) = some (.string ⟨(l.getD k []).toArray⟩) := by
  obtain ⟨ad, he, hb, hc⟩ := h.reads.2 (by omega)
  refine ⟨ad, he, hb, hc k _ ?_⟩
  rw [scell_flat, List.getElem?_map, List.getD_eq_getElem?_getD, List.getElem?_eq_getElem hk]
  rfl
theorem cut_at (l : List UInt8) (a i : Nat) (h1 : a ≤ i) (h2 : i < l.length) : l.drop a = (l.drop a).take (i - a) ++ l.getD i 0 :: l.drop (i + 1) := by
  have e := (List.take_append_drop (i - a) (l.drop a)).symm
  rw [List.drop_drop, show a + (i - a) = i by omega, List.drop_eq_getElem_cons h2] at e
  rw [List.getD_eq_getElem?_getD, List.getElem?_eq_getElem h2]
  exact e

set_option maxRecDepth 100000 in
set_option maxHeartbeats 4000000 in
theorem ref_parts (l : List UInt8) (c : UInt8) (w : World) (hL : l.length ≤ 100000) :
    Calls Tryd.prog 31 #[.string ⟨l.toArray⟩, .int .u8 (c.toNat : Nat)] w fun e w' => ∃ A k, e = .returned (.slice A (parts c l).length k) ∧ OwnS w' w.heap.size A k (parts c l) ∧ Below w.heap.size w w' := by
  obtain ⟨ws, hws⟩ : ∃ ws, parts c l = ws := ⟨_, rfl⟩
  rw [hws]
  obtain ⟨i0, hi0, hz0, hz1, hz2⟩ := info_parts info_str
  have hInf := Lib.hid (And.intro hi0 (And.intro hz0 (And.intro hz1 hz2)))
  clear hi0 hz0 hz1 hz2
  go_enter Tryd.func31, Tryd.ntmps31
  go_wp2_with fail
  go_loopw [5, 6, 7] (fun s f i wr => ∃ (a j : Nat) (A : Option Addr) (k : Nat) (out : List (List UInt8)), a ≤ j ∧ j ≤ l.length ∧ i = .int .i64 (j : Nat) ∧ f = .int .i64 (a : Nat) ∧ s = .slice A out.length k ∧ out.length ≤ a ∧ ws = out ++ parts c (l.drop a) ∧ c ∉ (l.drop a).take (j - a) ∧ OwnS wr w.heap.size A k out ∧ Below w.heap.size w wr) (fun _ _ i _ => l.length - (intOf i).toNat)
  case atStart => exact ⟨0, 0, none, 0, [], by omega, by omega, rfl, rfl, rfl, by simp, by rw [← hws]; rfl, by simp, OwnA.nil _ _, Below.refl _ _⟩
  case round =>
    obtain ⟨a, j, A, k, out, haj, hj, rfl, rfl, rfl, hol, hpar, hno, hO, hb⟩ := hrel
    have hsz := hb.size
    by_cases hlt : j < l.length
    · have hlti : (j : Int) < (l.length : Int) := by omega
      have hi0 := fun W => idx_str l j W hlt
      have hcut := cut_at l a j haj hlt
      obtain ⟨d, hd⟩ : ∃ d, l.getD j 0 = d := ⟨_, rfl⟩
      rw [hd] at hi0 hcut
      by_cases he : d = c
      · have hbq : ((d.toNat : Int) == (c.toNat : Int)) = true := by rw [he]; simp
        have sl := fun W => slice_piece l a j W haj (by omega)
        have hpar2 : ws = (out ++ [(l.drop a).take (j - a)]) ++ parts c (l.drop (j + 1)) := by
          rw [hpar, hcut, he, parts_hit c _ _ hno]
          have : ((l.drop a).take (j - a) ++ c :: l.drop (j + 1)).take (j - a) = (l.drop a).take (j - a) := by
            rw [List.take_append_of_le_length (by simp; omega), List.take_take, Nat.min_self]
          rw [this]; simp
        generalize (l.drop a).take (j - a) = piece at *
        replace hpar2 := Lib.hid hpar2
        clear hpar hno hcut
        replace hd := Lib.hid hd
        replace he := Lib.hid he
        replace hO := Lib.hid hO
        replace hws := Lib.hid hws
        go_wp2_with (at_builtin; refine wpList_push scell 1 (fun _ => rfl) scell_one (by omega) 49 i0 _ 16 Tryd.underlying49 hInf.out.1 hInf.out.2.1 hInf.out.2.2.1 hInf.out.2.2.2 rfl (by omega) rfl (.tmp 19) (.tmp 24) rfl w.heap.size A k out piece _ rfl rfl hO.out _ rfl rfl rfl (by omega) hsz ?_; intro A2 p2 w7 ho7 hp7)
        have hS7 := hp7.below (w0 := w) (B := w.heap.size) hb hsz (fun b hb => (hO.out.block hb).1)
        replace ho7 := Lib.hid ho7
        go_wp2_with fail
        go_roundw
        case rel => exact ⟨j + 1, j + 1, A2, p2, out ++ [piece], by omega, by omega, by go_num, by go_num, by simp, by simp; omega, hpar2.out, by simp, ho7.out, hS7⟩
        case measure => simp [intOf]; omega
      · have hbq : ((d.toNat : Int) == (c.toNat : Int)) = false := by
          rw [beq_eq_false_iff_ne]
          intro e
          exact he (UInt8.toNat_inj.1 (by omega))
        have hno2 : c ∉ (l.drop a).take (j + 1 - a) := by
          rw [show j + 1 - a = (j - a) + 1 by omega, List.take_add_one]
          intro h
          rcases List.mem_append.1 h with h | h
          · exact hno h
          · rw [List.getElem?_drop, show a + (j - a) = j by omega, List.getElem?_eq_getElem hlt] at h
            rw [List.getD_eq_getElem?_getD, List.getElem?_eq_getElem hlt] at hd
            simp at h hd
            exact he (by rw [← hd, h])
        replace hpar := Lib.hid hpar
        replace hno2 := Lib.hid hno2
        clear hno hcut
        replace hd := Lib.hid hd
        replace he := Lib.hid he
        replace hO := Lib.hid hO
        replace hws := Lib.hid hws
        go_wp2_with fail
        go_roundw
        case rel => exact ⟨a, j + 1, A, k, out, by omega, by omega, by go_num, rfl, rfl, hol, hpar.out, hno2.out, hO.out, hb⟩
        case measure => simp [intOf]; omega
    · have hlti : ¬ (j : Int) < (l.length : Int) := by omega
      obtain rfl : j = l.length := by omega
      have sl := fun W => slice_from l a W haj
      rw [List.take_of_length_le (by simp)] at hno
      rw [parts_none c _ hno] at hpar
      generalize l.drop a = piece at *
      have hwl : ws.length = out.length + 1 := by rw [hpar]; simp
      replace hpar := Lib.hid hpar
      replace hO := Lib.hid hO
      replace hws := Lib.hid hws
      replace hno := Lib.hid hno
      go_wp2_with (at_builtin; refine wpList_push scell 1 (fun _ => rfl) scell_one (by omega) 49 i0 _ 16 Tryd.underlying49 hInf.out.1 hInf.out.2.1 hInf.out.2.2.1 hInf.out.2.2.2 rfl (by omega) rfl (.tmp 28) (.tmp 32) rfl w.heap.size A k out piece _ rfl rfl hO.out _ rfl rfl rfl (by omega) hsz ?_; intro A2 p2 w7 ho7 hp7)
      have hS7 := hp7.below (w0 := w) (B := w.heap.size) hb hsz (fun b hb => (hO.out.block hb).1)
      replace ho7 := Lib.hid ho7
      go_wp2_with fail
      go_ret
      rw [hpar.out]
      exact ⟨A2, p2, by simp, ho7.out, hS7⟩
end Go.Proofs.YtodbgjnccngljaaDoor
