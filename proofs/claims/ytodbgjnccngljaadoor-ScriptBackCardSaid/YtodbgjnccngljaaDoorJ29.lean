/- script.Text. script.Read. Law 40: few, list, same. Law 40: awake. Law 40: acts come back from their text. -/
import Derived.Test.YtodbgjnccngljaaDoorJ28
import Derived.Test.YtodbgjnccngljaaDoorJ26
namespace Go.Proofs.YtodbgjnccngljaaDoor
open Go Go.RowKit Go.Deep

theorem own_call {w w' : World} {base : Nat} {e : TypeId} {m : Nat} {v : Value} {n : Nat} {xs : List Value} (h : w.ownsRow base e m v n xs) (hb : Below w.heap.size w w') : w'.ownsRow base e m v n xs :=
  ⟨h.1, h.2.imp (fun x => x) fun ⟨g, cap, cur, hv, hg, hh, hr⟩ => ⟨g, cap, cur, hv, hg, by rw [hb.block g (Array.getElem?_eq_some_iff.1 hh).1]; exact hh, hr⟩⟩
theorem Bld.call {b B : Nat} {l : List UInt8} {w w' : World} (h : Bld b B l w) (hb : Below w.heap.size w w') : Bld b B l w' := by
  obtain ⟨h1, h2, p, v, h3, h4, h5⟩ := h
  exact ⟨h1, Nat.le_trans h2 hb.size, p, v, h3, by rw [hb.block b (by omega)]; exact h4, own_call h5 hb⟩
theorem chg_FB {b B : Nat} {w0 w w' : World} (h : Chg (FB b B) w w') (hb : Below b w0 w) (hB : b < B) (hw : B ≤ w.heap.size) : Below b w0 w' :=
  below_chg hb h (fun y hy hF => by rcases hF with h | h <;> omega) (by omega)
theorem take_actsnoc (l : List ActL) {j : Nat} (h : j < l.length) : l.take (j + 1) = l.take j ++ [l.getD j (zeroL 0)] := by
  rw [List.take_add_one, List.getElem?_eq_getElem h, List.getD_eq_getElem?_getD, List.getElem?_eq_getElem h]
  rfl
theorem lines_take (l : List ActL) {j : Nat} (h : j < l.length) : linesL (l.take (j + 1)) = linesL (l.take j) ++ (lineL (l.getD j (zeroL 0)) ++ [10]) := by
  rw [take_actsnoc l h]
  unfold linesL
  rw [List.flatMap_append]
  simp
theorem all_drop (l : List ActL) (p : ActL → Bool) {j : Nat} (h : j < l.length) : (l.drop j).all p = (p (l.getD j (zeroL 0)) && (l.drop (j + 1)).all p) := by
  rw [List.drop_eq_getElem_cons h, List.all_cons, List.getD_eq_getElem?_getD, List.getElem?_eq_getElem h]
  rfl
theorem lines_short (l : List ActL) (h : ∀ x ∈ l, inL x ∧ x.s.length ≤ 10000) (j : Nat) (hr : (l.take j).all rightL = true) (hl : l.length ≤ 1000) : (linesL (l.take j)).length ≤ 200000000 := by
  have := lines_len (l := l.take j) (m := 10000) (fun x hx => ⟨List.all_eq_true.1 hr x hx, (h x (List.mem_of_mem_take hx)).1, (h x (List.mem_of_mem_take hx)).2⟩)
  have h2 : (l.take j).length ≤ 1000 := by rw [List.length_take]; omega
  have h3 : (l.take j).length * (10 * 10000 + 601) ≤ 1000 * (10 * 10000 + 601) := Nat.mul_le_mul_right _ h2
  omega
set_option maxRecDepth 100000 in
set_option maxHeartbeats 16000000 in
theorem scr_many (A : Option Addr) (c : Nat) (l : List ActL) (w : World) (h2 : 200 < l.length) (hl : l.length ≤ 1000) :
    Calls Tryd.prog 21 #[.slice A l.length c] w fun e w' => e = .returned (.tuple #[.string ⟨#[]⟩, .bool false]) ∧ Below w.heap.size w w' := by
  have g : (200 : Int) < (l.length : Int) := by omega
  go_enter Tryd.func21, Tryd.ntmps21
  go_wp2_with fail
  go_ret2
  exact ⟨rfl, Below.refl _ _⟩
set_option maxRecDepth 100000 in
set_option maxHeartbeats 16000000 in
theorem scr_few (A : Option Addr) (c : Nat) (l : List ActL) (w : World) (hw : Std w) (hrd : Reads w w.heap.size 13 A l.length (l.flatMap actC)) (hin : ∀ x ∈ l, inL x ∧ x.s.length ≤ 10000) (hl : l.length ≤ 200) (p : Bool) (hp : l.all rightL = p) :
    Calls Tryd.prog 21 #[.slice A l.length c] w fun e w' => e = .returned (.tuple #[.string ⟨(if p then linesL l else []).toArray⟩, .bool p]) ∧ Below w.heap.size w w' := by
  have g : ¬ (200 : Int) < (l.length : Int) := by omega
  obtain ⟨w1, hw1⟩ : ∃ w1, w1 = w.alloc (.cells #[.pointer none, .slice none 0 0] 71) := ⟨_, rfl⟩
  have hb1 : Below w.heap.size w w1 := hw1 ▸ below_alloc (Below.refl _ _) _
  have hs1 : w1.heap.size = w.heap.size + 1 := by rw [hw1]; simp
  have hB1 : Bld w.heap.size w1.heap.size [] w1 := by
    have h := Bld.fresh w w1.heap.size (by omega) w1 (by rw [hw1, show w.heap.size + 1 = (w.alloc (.cells #[.pointer none, .slice none 0 0] 71)).heap.size by simp]; exact Below.refl _ _) (Nat.le_refl _)
    exact h
  replace hp := Lib.hid hp
  replace hB1 := Lib.hid hB1
  replace hb1 := Lib.hid hb1
  replace hin := Lib.hid hin
  go_enter Tryd.func21, Tryd.ntmps21
  go_upto_region 4 with fail
  rw [← hw1]
  clear hw1
  go_wp2_with fail
  go_loopw [14] (fun i wr => ∃ j : Nat, j ≤ l.length ∧ i = .int .i64 (j : Nat) ∧ (l.take j).all rightL = true ∧ (l.drop j).all rightL = p ∧ Bld w.heap.size w1.heap.size (linesL (l.take j)) wr ∧ Below w.heap.size w wr) (fun i _ => l.length - (intOf i).toNat)
  case atStart => exact ⟨0, by omega, rfl, by simp, by rw [List.drop_zero]; exact hp.out, by simpa [linesL] using hB1.out, hb1.out⟩
  case round =>
    obtain ⟨j, hj, rfl, hm, hd, hBr, hbr⟩ := hrel
    have hsr := hbr.size
    by_cases hlt : j < l.length
    · have hlti : (j : Int) < (l.length : Int) := by omega
      have hj0 : (0 : Int) ≤ (j : Int) := by omega
      obtain ⟨ad, rfl, c0, c1, c2, c3, c4, c5, c6, c7, c8, c9, c10, c11, c12⟩ := act_rd (hrd.below hbr) rfl hlt
      have hshort := lines_short l hin.out j hm (by omega)
      rw [all_drop l _ hlt] at hd
      have hmem : l.getD j (zeroL 0) ∈ l := by rw [List.getD_eq_getElem?_getD, List.getElem?_eq_getElem hlt]; exact List.getElem_mem hlt
      obtain ⟨hix, hsx⟩ := hin.out _ hmem
      have htk := lines_take l hlt
      have hat : (l.take (j + 1)).all rightL = ((l.take j).all rightL && rightL (l.getD j (zeroL 0))) := by
        rw [take_actsnoc l hlt, List.all_append]
        simp
      generalize l.getD j (zeroL 0) = x at *
      obtain ⟨w2, hw2⟩ : ∃ w2, w2 = wr.alloc (.cells #[.int .i64 x.k, .int .i64 x.at_, .int .i64 x.id, .int .i64 x.n, .string ⟨x.s.toArray⟩, .int .u64 ((x.a : Nat) : Int), .int .u64 ((x.b : Nat) : Int), .bool x.on, .bool x.v6, .int .u64 ((x.hi : Nat) : Int), .int .u64 ((x.lo : Nat) : Int), .int .i64 x.pk, .int .i64 x.ps] 65) := ⟨_, rfl⟩
      have hb2 : Below wr.heap.size wr w2 := hw2 ▸ below_alloc (Below.refl _ _) _
      have h2 : Blk w2 wr.heap.size 65 (actCs x) := by rw [hw2]; exact Blk.new wr 65 _
      have hbw := below_chain hb2 hbr
      have LN := scr_line x w2 (hw.below hbw) hix (by omega)
      obtain ⟨d0, d1, d2, d3, d4, d5, d6, d7, d8, d9, d10, d11, d12⟩ := act13 h2
      have hB2 := hBr.call hb2
      cases hrx : rightL x with
      | false =>
        rw [hrx] at LN hd
        have hpf : p = false := by rw [← hd]; rfl
        subst hpf
        replace LN := Lib.hid (show Calls Tryd.prog 42 #[.agg #[.int .i64 x.k, .int .i64 x.at_, .int .i64 x.id, .int .i64 x.n, .string ⟨x.s.toArray⟩, .int .u64 ((x.a : Nat) : Int), .int .u64 ((x.b : Nat) : Int), .bool x.on, .bool x.v6, .int .u64 ((x.hi : Nat) : Int), .int .u64 ((x.lo : Nat) : Int), .int .i64 x.pk, .int .i64 x.ps]] w2 fun e w' => e = .returned (.tuple #[.string ⟨#[]⟩, .bool false]) ∧ Below w2.heap.size w2 w' from LN)
        clear htk hat hd hm hrx hp hmem hBr hB2 h2
        replace hbw := Lib.hid hbw
        clear hb2
        go_upto_region 7 with fail
        rw [← hw2]
        clear hw2
        go_wp2_with (go_at_call 42; (refine LN.out.mono ?_); rintro e w3 ⟨rfl, hb3⟩)
        go_ret2
        exact ⟨rfl, below_chain hb3 hbw.out⟩
      | true =>
        rw [hrx] at LN hat hd
        have hd2 : (l.drop (j + 1)).all rightL = p := by rw [← hd]; simp
        have hm2 : (l.take (j + 1)).all rightL = true := by rw [hat, hm]; rfl
        replace LN := Lib.hid (show Calls Tryd.prog 42 #[.agg #[.int .i64 x.k, .int .i64 x.at_, .int .i64 x.id, .int .i64 x.n, .string ⟨x.s.toArray⟩, .int .u64 ((x.a : Nat) : Int), .int .u64 ((x.b : Nat) : Int), .bool x.on, .bool x.v6, .int .u64 ((x.hi : Nat) : Int), .int .u64 ((x.lo : Nat) : Int), .int .i64 x.pk, .int .i64 x.ps]] w2 fun e w' => e = .returned (.tuple #[.string ⟨(lineL x).toArray⟩, .bool true]) ∧ Below w2.heap.size w2 w' from LN)
        have hxl := line_len hrx hix
        have hcat : (ByteArray.mk (lineL x).toArray) ++ ⟨#[10]⟩ = ⟨(lineL x ++ [10]).toArray⟩ := str_append (lineL x) [10]
        have hss : ¬ 9223372036854775807 < (lineL x).length + 1 := by omega
        have hfit : (linesL (l.take j)).length + (lineL x ++ [10]).length ≤ 140737488355328 := by simp; omega
        clear hat hd hm hrx hmem hBr h2 hshort hxl hsx hix
        replace htk := Lib.hid htk
        replace hd2 := Lib.hid hd2
        replace hm2 := Lib.hid hm2
        replace hbw := Lib.hid hbw
        replace hfit := Lib.hid hfit
        replace hcat := Lib.hid hcat
        clear hb2
        generalize hLx : lineL x = lx at *
        replace hLx := Lib.hid hLx
        go_upto_region 7 with fail
        rw [← hw2]
        clear hw2
        have hcat2 := hcat.out
        go_wp2_with (first
          | (go_at_call 42; (refine LN.out.mono ?_); rintro e w3 ⟨rfl, hb3⟩; have hB3 := hB2.call hb3; have hb3w := below_chain hb3 hbw.out)
          | (go_at_call 43; (refine (bld_str w.heap.size w1.heap.size _ (lx ++ [10]) _ hB3 hfit.out).mono ?_); rintro e w4 ⟨rfl, hB4, hk4⟩; have hb4w := chg_FB hk4 hb3w hB3.1 hB3.2.1))
        go_roundw
        case rel => exact ⟨j + 1, by omega, by go_num, hm2.out, hd2.out, by rw [htk.out]; exact hB4, hb4w⟩
        case measure => simp [intOf]; omega
    · have hlti : ¬ (j : Int) < (l.length : Int) := by omega
      obtain rfl : j = l.length := by omega
      rw [List.drop_length, List.all_nil] at hd
      subst hd
      rw [List.take_length] at hBr
      have T := Lib.hid (bld_text w.heap.size w1.heap.size (linesL l) wr hBr)
      clear hBr hm
      go_wp2_with (go_at_call 44; (refine T.out.mono ?_); rintro e w3 ⟨rfl, hb3⟩)
      go_ret2
      exact ⟨rfl, hbr.trans hb3⟩
theorem scr_txt (A : Option Addr) (c : Nat) (l : List ActL) (w : World) (hw : Std w) (hrd : Reads w w.heap.size 13 A l.length (l.flatMap actC)) (hin : ∀ x ∈ l, inL x ∧ x.s.length ≤ 10000) (hl : l.length ≤ 1000) :
    Calls Tryd.prog 21 #[.slice A l.length c] w fun e w' => e = .returned (.tuple #[.string ⟨(if textOk l then linesL l else []).toArray⟩, .bool (textOk l)]) ∧ Below w.heap.size w w' := by
  by_cases h2 : 200 < l.length
  · have : textOk l = false := by unfold textOk; simp; omega
    rw [this]
    exact scr_many A c l w h2 hl
  · have : textOk l = l.all rightL := by unfold textOk; simp; omega
    rw [this]
    exact scr_few A c l w hw hrd hin (by omega) _ rfl
end Go.Proofs.YtodbgjnccngljaaDoor

namespace Go.Proofs.YtodbgjnccngljaaDoor
open Go Go.RowKit Go.Deep

def rdR (t : List UInt8) : Nat × List ActL := rdL 0 (parts 10 t) []
def rdA (t : List UInt8) : List ActL := if (rdR t).1 ≠ 0 then [] else if 200 < (rdR t).2.length then [] else (rdR t).2
def rdN (t : List UInt8) : Nat := (rdR t).1
def rdE (t : List UInt8) : Int := if (rdR t).1 ≠ 0 then 3 else if 200 < (rdR t).2.length then 9 else 0
theorem rd_drop (ps : List (List UInt8)) {j : Nat} (h : j < ps.length) (acc : List ActL) : rdL j (ps.drop j) acc = if ps.getD j [] = [] ∨ (ps.getD j []).headD 0 = 35 then rdL (j + 1) (ps.drop (j + 1)) acc else match parseP (ps.getD j []) with
    | some a => rdL (j + 1) (ps.drop (j + 1)) (acc ++ [a])
    | none => (j + 1, []) := by
  rw [List.drop_eq_getElem_cons h, List.getD_eq_getElem?_getD, List.getElem?_eq_getElem h]
  rfl
set_option maxRecDepth 100000 in
set_option maxHeartbeats 16000000 in
theorem scr_read (t : List UInt8) (w : World) (hw : Std w) (hL : t.length ≤ 900000) (hp : ∀ x ∈ parts 10 t, x.length ≤ 10000) :
    Calls Tryd.prog 23 #[.string ⟨t.toArray⟩] w fun e w' => ∃ A c, e = .returned (.tuple #[.slice A (rdA t).length c, .int .i64 (rdN t : Nat), .int .i64 (rdE t)]) ∧ OwnF w' w.heap.size A c (rdA t) ∧ Below w.heap.size w w' := by
  have S := Lib.hid (std_split t 10 w hw (by omega))
  obtain ⟨hpl, -⟩ := parts_len 10 t
  obtain ⟨R, hR⟩ : ∃ R, rdR t = R := ⟨_, rfl⟩
  have hA : rdA t = if R.1 ≠ 0 then [] else if 200 < R.2.length then [] else R.2 := by unfold rdA; rw [hR]
  have hN : rdN t = R.1 := by unfold rdN; rw [hR]
  have hE : rdE t = if R.1 ≠ 0 then 3 else if 200 < R.2.length then 9 else 0 := by unfold rdE; rw [hR]
  rw [hA, hN, hE]
  clear hA hN hE
  unfold rdR at hR
  obtain ⟨ps, hps⟩ : ∃ ps, parts 10 t = ps := ⟨_, rfl⟩
  rw [hps] at S hR hp hpl
  have hpz : ps.length ≤ 900001 := by omega
  clear hps hpl hL
  replace hp := Lib.hid hp
  replace hR := Lib.hid hR
  go_enter Tryd.func23, Tryd.ntmps23
  go_wp2_with (go_at_call 46; refine S.out.mono ?_; rintro e w2 ⟨rfl, hB2, hb2⟩)
  go_loopw [5, 13] (fun s i wr => ∃ (j : Nat) (A : Option Addr) (k : Nat) (acc : List ActL), j ≤ ps.length ∧ i = .int .i64 (j : Nat) ∧ s = .slice A acc.length k ∧ acc.length ≤ j ∧ R = rdL j (ps.drop j) acc ∧ OwnF wr w2.heap.size A k acc ∧ Below w2.heap.size w2 wr) (fun _ i _ => ps.length - (intOf i).toNat)
  case atStart => exact ⟨0, none, 0, [], by omega, rfl, rfl, by simp, by rw [List.drop_zero]; exact hR.out.symm, OwnA.nil _ _, Below.refl _ _⟩
  case round =>
    obtain ⟨j, A, k, acc, hj, rfl, rfl, hal, hrd, hO, hb⟩ := hrel
    have hBr := hB2.call hb
    have hsz := hb.size
    by_cases hlt : j < ps.length
    · have hlti : (j : Int) < (ps.length : Int) := by omega
      have hj0 : (0 : Int) ≤ (j : Int) := by omega
      have c9 := blk_str hBr hlt
      rw [rd_drop ps hlt acc] at hrd
      have hxl : (ps.getD j []).length ≤ 10000 := hp.out _ (by rw [List.getD_eq_getElem?_getD, List.getElem?_eq_getElem hlt]; simp)
      have hbw : Below w.heap.size w wr := below_chain hb hb2
      obtain ⟨x, hx⟩ : ∃ x, ps.getD j [] = x := ⟨_, rfl⟩
      rw [hx] at c9 hrd hxl
      replace hx := Lib.hid hx
      clear hBr
      replace hO := Lib.hid hO
      by_cases hx0 : x = []
      · subst hx0
        rw [if_pos (Or.inl rfl)] at hrd
        have hrd2 := Lib.hid hrd
        clear hrd hxl
        go_wp2_with fail
        go_roundw
        case rel => exact ⟨j + 1, A, k, acc, by omega, by go_num, rfl, by omega, hrd2.out, hO.out, hb⟩
        case measure => simp [intOf]; omega
      have e2 : x.isEmpty = false := by cases x; exact absurd rfl hx0; rfl
      have e3 : (x == ([] : List UInt8)) = false := by cases x; exact absurd rfl hx0; rfl
      have hl0 : 0 < x.length := by cases x; exact absurd rfl hx0; simp
      have hix : ∀ W, (Instr.index 9 (.string ⟨x.toArray⟩) (.int .i64 0)).run Tryd.prog W = .ok (.int .u8 ((x.headD 0).toNat : Nat)) W := fun W => by
        have h := idx_str x 0 W hl0
        rw [show x.getD 0 0 = x.headD 0 by cases x <;> rfl] at h
        exact h
      by_cases h35 : x.headD 0 = 35
      · rw [if_pos (Or.inr h35)] at hrd
        have hrd2 := Lib.hid hrd
        have hbq : (((x.headD 0).toNat : Int) == 35) = true := by rw [h35]; rfl
        generalize x.headD 0 = d at *
        clear hrd hxl hx0 hl0
        replace h35 := Lib.hid h35
        go_wp2_with fail
        go_roundw
        case rel => exact ⟨j + 1, A, k, acc, by omega, by go_num, rfl, by omega, hrd2.out, hO.out, hb⟩
        case measure => simp [intOf]; omega
      · rw [if_neg (fun h => by rcases h with h | h; exact hx0 h; exact h35 h)] at hrd
        have hbq : (((x.headD 0).toNat : Int) == 35) = false := by
          rw [beq_eq_false_iff_ne]
          intro e
          exact h35 (UInt8.toNat_inj.1 (by have : (35 : UInt8).toNat = 35 := rfl; omega))
        have PA := scr_parse x wr (hw.below hbw) hxl
        generalize x.headD 0 = d at *
        clear hx0 hl0
        replace h35 := Lib.hid h35
        cases hpx : parseP x with
        | none =>
          rw [hpx] at hrd PA
          have hr1 : R = (j + 1, []) := hrd
          subst hr1
          clear hrd hpx hxl
          replace PA := Lib.hid (show Calls Tryd.prog 41 #[.string ⟨x.toArray⟩] wr fun e w' => e = .returned (.tuple #[.agg #[.int .i64 0, .int .i64 0, .int .i64 0, .int .i64 0, .string ⟨#[]⟩, .int .u64 0, .int .u64 0, .bool false, .bool false, .int .u64 0, .int .u64 0, .int .i64 0, .int .i64 0], .bool false]) ∧ Below wr.heap.size wr w' from PA)
          go_wp2_with (go_at_call 41; (refine PA.out.mono ?_); rintro e w3 ⟨rfl, hb3⟩)
          go_ret3
          exact ⟨none, 0, by simp, OwnA.nil _ _, below_alloc (below_chain hb3 hbw) _⟩
        | some a =>
          rw [hpx] at hrd PA
          have hrd2 := Lib.hid (show R = rdL (j + 1) (ps.drop (j + 1)) (acc ++ [a]) from hrd)
          clear hrd hpx hxl
          replace PA := Lib.hid (show Calls Tryd.prog 41 #[.string ⟨x.toArray⟩] wr fun e w' => e = .returned (.tuple #[.agg #[.int .i64 a.k, .int .i64 a.at_, .int .i64 a.id, .int .i64 a.n, .string ⟨a.s.toArray⟩, .int .u64 ((a.a : Nat) : Int), .int .u64 ((a.b : Nat) : Int), .bool a.on, .bool a.v6, .int .u64 ((a.hi : Nat) : Int), .int .u64 ((a.lo : Nat) : Int), .int .i64 a.pk, .int .i64 a.ps], .bool true]) ∧ Below wr.heap.size wr w' from PA)
          go_upto_region 7 with (go_at_call 41; (refine PA.out.mono ?_); rintro e w3 ⟨rfl, hb3⟩)
          have K4 : Blk (w3.alloc (.cells #[.int .i64 a.k, .int .i64 a.at_, .int .i64 a.id, .int .i64 a.n, .string ⟨a.s.toArray⟩, .int .u64 ((a.a : Nat) : Int), .int .u64 ((a.b : Nat) : Int), .bool a.on, .bool a.v6, .int .u64 ((a.hi : Nat) : Int), .int .u64 ((a.lo : Nat) : Int), .int .i64 a.pk, .int .i64 a.ps] 65)) w3.heap.size 65 (actCs a) := Blk.new w3 65 _
          have hO4 := (OwnA.call hO.out hb3).alloc (.cells #[.int .i64 a.k, .int .i64 a.at_, .int .i64 a.id, .int .i64 a.n, .string ⟨a.s.toArray⟩, .int .u64 ((a.a : Nat) : Int), .int .u64 ((a.b : Nat) : Int), .bool a.on, .bool a.v6, .int .u64 ((a.hi : Nat) : Int), .int .u64 ((a.lo : Nat) : Int), .int .i64 a.pk, .int .i64 a.ps] 65)
          have hb4 := below_alloc (below_chain hb3 hb) (.cells #[.int .i64 a.k, .int .i64 a.at_, .int .i64 a.id, .int .i64 a.n, .string ⟨a.s.toArray⟩, .int .u64 ((a.a : Nat) : Int), .int .u64 ((a.b : Nat) : Int), .bool a.on, .bool a.v6, .int .u64 ((a.hi : Nat) : Int), .int .u64 ((a.lo : Nat) : Int), .int .i64 a.pk, .int .i64 a.ps] 65)
          clear c9
          generalize w3.alloc (.cells #[.int .i64 a.k, .int .i64 a.at_, .int .i64 a.id, .int .i64 a.n, .string ⟨a.s.toArray⟩, .int .u64 ((a.a : Nat) : Int), .int .u64 ((a.b : Nat) : Int), .bool a.on, .bool a.v6, .int .u64 ((a.hi : Nat) : Int), .int .u64 ((a.lo : Nat) : Int), .int .i64 a.pk, .int .i64 a.ps] 65) = w4 at *
          obtain ⟨d0, d1, d2, d3, d4, d5, d6, d7, d8, d9, d10, d11, d12⟩ := act13 K4
          have hsz4 := hb4.size
          replace hO4 := Lib.hid hO4
          clear K4
          go_wp2_with (at_builtin; refine wpList_push_act rfl (.tmp 34) (.tmp 36) rfl w2.heap.size A k acc a _ rfl rfl hO4.out _ rfl rfl rfl (by omega) hsz4 ?_; intro A2 p2 w7 ho7 hp7)
          have hS7 := hp7.below (w0 := w2) (B := w2.heap.size) hb4 hsz4 (fun b hb => (hO4.out.block hb).1)
          replace ho7 := Lib.hid ho7
          go_wp2_with fail
          go_roundw
          case rel => exact ⟨j + 1, A2, p2, acc ++ [a], by omega, by go_num, by simp, by simp; omega, hrd2.out, ho7.out, hS7⟩
          case measure => simp [intOf]; omega
    · have hlti : ¬ (j : Int) < (ps.length : Int) := by omega
      obtain rfl : j = ps.length := by omega
      rw [List.drop_length] at hrd
      have hr1 : R = (0, acc) := hrd
      subst hr1
      have hbw : Below w.heap.size w wr := below_chain hb hb2
      by_cases h2 : 200 < acc.length
      · have h2i : (200 : Int) < (acc.length : Int) := by omega
        clear hrd hO
        go_wp2_with fail
        go_ret3
        exact ⟨none, 0, by simp, by simpa [h2] using OwnA.nil _ _, hbw⟩
      · have h2i : ¬ (200 : Int) < (acc.length : Int) := by omega
        have hO2 := Lib.hid (show OwnF wr w.heap.size A k acc from ⟨hO.1, hO.2.imp (fun x => x) fun ⟨g, cap, cur, a, b, c⟩ => ⟨g, cap, cur, a, Nat.le_trans hb2.size b, c⟩⟩)
        clear hrd hO
        go_wp2_with fail
        go_ret3
        exact ⟨A, k, by simp, by simpa [h2] using hO2.out, hbw⟩
end Go.Proofs.YtodbgjnccngljaaDoor

namespace Go.Proofs.YtodbgjnccngljaaDoor
open Go Go.RowKit Go.Deep

def fewL (l : List ActL) (m : Nat) : Bool := (l.take m).all (fun x => decide (x.s.length ≤ 200)) && decide (l.length ≤ m)
theorem getD_mem {l : List ActL} {j : Nat} (h : j < l.length) : l.getD j (zeroL 0) ∈ l := by
  rw [List.getD_eq_getElem?_getD, List.getElem?_eq_getElem h]; exact List.getElem_mem h
theorem few_iff {l : List ActL} {m : Nat} : fewL l m = true ↔ l.length ≤ m ∧ ∀ x ∈ l, x.s.length ≤ 200 := by
  unfold fewL
  rw [Bool.and_eq_true, decide_eq_true_eq]
  constructor
  · rintro ⟨h1, h2⟩
    rw [List.take_of_length_le h2, List.all_eq_true] at h1
    exact ⟨h2, fun x hx => of_decide_eq_true (h1 x hx)⟩
  · rintro ⟨h1, h2⟩
    rw [List.take_of_length_le h1, List.all_eq_true]
    exact ⟨fun x hx => decide_eq_true (h2 x hx), h1⟩
set_option maxRecDepth 100000 in
set_option maxHeartbeats 8000000 in
theorem law_few (A : Option Addr) (c : Nat) (l : List ActL) (m : Nat) (w : World) (hrd : Reads w w.heap.size 13 A l.length (l.flatMap actC)) (hm : m ≤ 1000) :
    Calls Tryd.prog 19 #[.slice A l.length c, .int .i64 (m : Nat)] w fun e w' => e = .returned (.bool (fewL l m)) ∧ Below w.heap.size w w' := by
  obtain ⟨p, hp⟩ : ∃ p, fewL l m = p := ⟨_, rfl⟩
  rw [hp]
  replace hp := Lib.hid hp
  go_enter Tryd.func19, Tryd.ntmps19
  go_wp2_with fail
  go_loopw [5] (fun i wr => ∃ j : Nat, j ≤ m ∧ i = .int .i64 (j : Nat) ∧ (l.take j).all (fun x => decide (x.s.length ≤ 200)) = true ∧ Below w.heap.size w wr) (fun i _ => m - (intOf i).toNat)
  case atStart => exact ⟨0, by omega, rfl, by simp, Below.refl _ _⟩
  case round =>
    obtain ⟨j, hj, rfl, ha, hb⟩ := hrel
    by_cases h1 : j < l.length
    · have h1i : (j : Int) < (l.length : Int) := by omega
      by_cases h2 : j < m
      · have h2i : (j : Int) < (m : Int) := by omega
        have hj0 : (0 : Int) ≤ (j : Int) := by omega
        obtain ⟨ad, rfl, c0, c1, c2, c3, c4, c5, c6, c7, c8, c9, c10, c11, c12⟩ := act_rd (hrd.below hb) rfl h1
        have htk := take_actsnoc l h1
        have hmem := getD_mem h1
        generalize l.getD j (zeroL 0) = x at *
        by_cases h3 : x.s.length ≤ 200
        · have h3i : ¬ (200 : Int) < (x.s.length : Int) := by omega
          have ha2 := Lib.hid (show (l.take (j + 1)).all (fun x => decide (x.s.length ≤ 200)) = true by
            rw [htk, List.all_append, ha, List.all_cons, List.all_nil, decide_eq_true h3]; rfl)
          clear ha htk hmem
          go_wp2_with fail
          go_roundw
          case rel => exact ⟨j + 1, by omega, by go_num, ha2.out, hb⟩
          case measure => simp [intOf]; omega
        · have h3i : (200 : Int) < (x.s.length : Int) := by omega
          have hpf : p = false := by
            cases p
            · rfl
            · exact absurd ((few_iff.1 hp.out).2 _ hmem) h3
          subst hpf
          clear ha h3 htk hmem
          go_wp2_with fail
          go_ret
          exact ⟨rfl, hb⟩
      · have h2i : ¬ (j : Int) < (m : Int) := by omega
        have h3i : ¬ (l.length : Int) ≤ (m : Int) := by omega
        have hpf : p = false := by
          cases p
          · rfl
          · exact absurd (few_iff.1 hp.out).1 (by omega)
        subst hpf
        clear ha
        go_wp2_with fail
        go_ret
        exact ⟨rfl, hb⟩
    · have h1i : ¬ (j : Int) < (l.length : Int) := by omega
      have h3i : (l.length : Int) ≤ (m : Int) := by omega
      have hpf : p = true := by
        rw [← hp.out]
        unfold fewL
        rw [List.take_of_length_le (by omega)] at ha
        rw [List.take_of_length_le (by omega), ha]
        simp; omega
      subst hpf
      clear ha
      go_wp2_with fail
      go_ret
      exact ⟨rfl, hb⟩
set_option maxRecDepth 100000 in
set_option maxHeartbeats 8000000 in
theorem law_list (A : Option Addr) (c : Nat) (l : List ActL) (w : World) (hrd : Reads w w.heap.size 13 A l.length (l.flatMap actC)) (hl : l.length ≤ 1000) :
    Calls Tryd.prog 22 #[.slice A l.length c] w fun e w' => ∃ A' c', e = .returned (.slice A' l.length c') ∧ OwnF w' w.heap.size A' c' l ∧ Below w.heap.size w w' := by
  have OF := Lib.hid law_of
  go_enter Tryd.func22, Tryd.ntmps22
  go_wp2_with fail
  go_loopw [3, 4] (fun s i wr => ∃ (j : Nat) (B : Option Addr) (k : Nat), j ≤ l.length ∧ i = .int .i64 (j : Nat) ∧ s = .slice B j k ∧ OwnF wr w.heap.size B k (l.take j) ∧ Below w.heap.size w wr) (fun _ i _ => l.length - (intOf i).toNat)
  case atStart => exact ⟨0, none, 0, by omega, rfl, rfl, by rw [List.take_zero]; exact OwnA.nil _ _, Below.refl _ _⟩
  case round =>
    obtain ⟨j, B, k, hj, rfl, rfl, hO, hb⟩ := hrel
    have hsz := hb.size
    by_cases hlt : j < l.length
    · have hlti : (j : Int) < (l.length : Int) := by omega
      have hj0 : (0 : Int) ≤ (j : Int) := by omega
      obtain ⟨ad, rfl, c0, c1, c2, c3, c4, c5, c6, c7, c8, c9, c10, c11, c12⟩ := act_rd (hrd.below hb) rfl hlt
      have htk := take_actsnoc l hlt
      have htl : (l.take j).length = j := by rw [List.length_take]; omega
      generalize l.getD j (zeroL 0) = x at *
      have OFx := Lib.hid (OF.out x)
      replace hO := Lib.hid hO
      replace htk := Lib.hid htk
      replace htl := Lib.hid htl
      go_wp2_with (first
        | (go_at_call 45; (with_reducible refine (OFx.out _).mono ?_); rintro e w3 ⟨rfl, hb3⟩; have hO3 := Lib.hid (OwnA.call hO.out hb3); have hb3w := below_chain hb3 hb; have hsz3 := hb3w.size)
        | (at_builtin; refine wpList_push_act rfl (.tmp 11) (.tmp 17) rfl w.heap.size B k (l.take j) x _ htl.out rfl hO3.out _ rfl rfl rfl (by omega) hsz3 ?_; intro A2 p2 w7 ho7 hp7))
      have hS7 := hp7.below (w0 := w) (B := w.heap.size) hb3w hsz3 (fun b hb => (hO3.out.block hb).1)
      rw [← htk.out] at ho7
      replace ho7 := Lib.hid ho7
      go_wp2_with fail
      go_roundw
      case rel => exact ⟨j + 1, A2, p2, by omega, by go_num, by simp, ho7.out, hS7⟩
      case measure => simp [intOf]; omega
    · have hlti : ¬ (j : Int) < (l.length : Int) := by omega
      obtain rfl : j = l.length := by omega
      rw [List.take_length] at hO
      replace hO := Lib.hid hO
      go_wp2_with fail
      go_ret
      exact ⟨B, k, rfl, hO.out, hb⟩
set_option maxRecDepth 100000 in
set_option maxHeartbeats 8000000 in
theorem law_same (A B : Option Addr) (ca cb : Nat) (l : List ActL) (w : World) (hA : Reads w w.heap.size 13 A l.length (l.flatMap actC)) (hB : Reads w w.heap.size 13 B l.length (l.flatMap actC)) (hl : l.length ≤ 1000) :
    Calls Tryd.prog 24 #[.slice A l.length ca, .slice B l.length cb] w fun e w' => e = .returned (.bool true) ∧ Below w.heap.size w w' := by
  have OF := Lib.hid law_of
  have hG := act_guard
  have hlen : ((l.length : Int) != (l.length : Int)) = false := by simp
  replace hA := Lib.hid hA
  replace hB := Lib.hid hB
  go_enter Tryd.func24, Tryd.ntmps24
  go_wp2_with fail
  go_loopw [5] (fun i wr => ∃ j : Nat, j ≤ l.length ∧ i = .int .i64 (j : Nat) ∧ Below w.heap.size w wr) (fun i _ => l.length - (intOf i).toNat)
  case atStart => exact ⟨0, by omega, rfl, Below.refl _ _⟩
  case round =>
    obtain ⟨j, hj, rfl, hb⟩ := hrel
    by_cases hlt : j < l.length
    · have hlti : (j : Int) < (l.length : Int) := by omega
      have hj0 : (0 : Int) ≤ (j : Int) := by omega
      have RA := hA.out.below hb
      have RB := hB.out.below hb
      obtain ⟨aa, rfl, -⟩ := act_rd RA rfl hlt
      obtain ⟨ab, rfl, -⟩ := act_rd RB rfl hlt
      have hC := Lib.hid fun W (h : Below wr.heap.size wr W) => (show W.cell? (aa.add (j * 13)) = some (.int .i64 (l.getD j (zeroL 0)).k) ∧ W.cell? ⟨(aa.add (j * 13)).block, (aa.add (j * 13)).off + 1, none⟩ = some (.int .i64 (l.getD j (zeroL 0)).at_) ∧ W.cell? ⟨(aa.add (j * 13)).block, (aa.add (j * 13)).off + 2, none⟩ = some (.int .i64 (l.getD j (zeroL 0)).id) ∧ W.cell? ⟨(aa.add (j * 13)).block, (aa.add (j * 13)).off + 3, none⟩ = some (.int .i64 (l.getD j (zeroL 0)).n) ∧ W.cell? ⟨(aa.add (j * 13)).block, (aa.add (j * 13)).off + 4, none⟩ = some (.string ⟨(l.getD j (zeroL 0)).s.toArray⟩) ∧ W.cell? ⟨(aa.add (j * 13)).block, (aa.add (j * 13)).off + 5, none⟩ = some (.int .u64 (((l.getD j (zeroL 0)).a : Nat) : Int)) ∧ W.cell? ⟨(aa.add (j * 13)).block, (aa.add (j * 13)).off + 6, none⟩ = some (.int .u64 (((l.getD j (zeroL 0)).b : Nat) : Int)) ∧ W.cell? ⟨(aa.add (j * 13)).block, (aa.add (j * 13)).off + 7, none⟩ = some (.bool (l.getD j (zeroL 0)).on) ∧ W.cell? ⟨(aa.add (j * 13)).block, (aa.add (j * 13)).off + 8, none⟩ = some (.bool (l.getD j (zeroL 0)).v6) ∧ W.cell? ⟨(aa.add (j * 13)).block, (aa.add (j * 13)).off + 9, none⟩ = some (.int .u64 (((l.getD j (zeroL 0)).hi : Nat) : Int)) ∧ W.cell? ⟨(aa.add (j * 13)).block, (aa.add (j * 13)).off + 10, none⟩ = some (.int .u64 (((l.getD j (zeroL 0)).lo : Nat) : Int)) ∧ W.cell? ⟨(aa.add (j * 13)).block, (aa.add (j * 13)).off + 11, none⟩ = some (.int .i64 (l.getD j (zeroL 0)).pk) ∧ W.cell? ⟨(aa.add (j * 13)).block, (aa.add (j * 13)).off + 12, none⟩ = some (.int .i64 (l.getD j (zeroL 0)).ps) ∧ W.cell? (ab.add (j * 13)) = some (.int .i64 (l.getD j (zeroL 0)).k) ∧ W.cell? ⟨(ab.add (j * 13)).block, (ab.add (j * 13)).off + 1, none⟩ = some (.int .i64 (l.getD j (zeroL 0)).at_) ∧ W.cell? ⟨(ab.add (j * 13)).block, (ab.add (j * 13)).off + 2, none⟩ = some (.int .i64 (l.getD j (zeroL 0)).id) ∧ W.cell? ⟨(ab.add (j * 13)).block, (ab.add (j * 13)).off + 3, none⟩ = some (.int .i64 (l.getD j (zeroL 0)).n) ∧ W.cell? ⟨(ab.add (j * 13)).block, (ab.add (j * 13)).off + 4, none⟩ = some (.string ⟨(l.getD j (zeroL 0)).s.toArray⟩) ∧ W.cell? ⟨(ab.add (j * 13)).block, (ab.add (j * 13)).off + 5, none⟩ = some (.int .u64 (((l.getD j (zeroL 0)).a : Nat) : Int)) ∧ W.cell? ⟨(ab.add (j * 13)).block, (ab.add (j * 13)).off + 6, none⟩ = some (.int .u64 (((l.getD j (zeroL 0)).b : Nat) : Int)) ∧ W.cell? ⟨(ab.add (j * 13)).block, (ab.add (j * 13)).off + 7, none⟩ = some (.bool (l.getD j (zeroL 0)).on) ∧ W.cell? ⟨(ab.add (j * 13)).block, (ab.add (j * 13)).off + 8, none⟩ = some (.bool (l.getD j (zeroL 0)).v6) ∧ W.cell? ⟨(ab.add (j * 13)).block, (ab.add (j * 13)).off + 9, none⟩ = some (.int .u64 (((l.getD j (zeroL 0)).hi : Nat) : Int)) ∧ W.cell? ⟨(ab.add (j * 13)).block, (ab.add (j * 13)).off + 10, none⟩ = some (.int .u64 (((l.getD j (zeroL 0)).lo : Nat) : Int)) ∧ W.cell? ⟨(ab.add (j * 13)).block, (ab.add (j * 13)).off + 11, none⟩ = some (.int .i64 (l.getD j (zeroL 0)).pk) ∧ W.cell? ⟨(ab.add (j * 13)).block, (ab.add (j * 13)).off + 12, none⟩ = some (.int .i64 (l.getD j (zeroL 0)).ps) from by
        obtain ⟨_, e1, c0, c1, c2, c3, c4, c5, c6, c7, c8, c9, c10, c11, c12⟩ := act_rd (hA.out.below (below_chain h hb)) rfl hlt
        obtain ⟨_, e2, d0, d1, d2, d3, d4, d5, d6, d7, d8, d9, d10, d11, d12⟩ := act_rd (hB.out.below (below_chain h hb)) rfl hlt
        cases e1; cases e2
        exact ⟨c0, c1, c2, c3, c4, c5, c6, c7, c8, c9, c10, c11, c12, d0, d1, d2, d3, d4, d5, d6, d7, d8, d9, d10, d11, d12⟩)
      generalize l.getD j (zeroL 0) = x at *
      have OFx := Lib.hid (OF.out x)
      have NQ : ∀ W, (binOp .neq 65 (.agg #[.int .i64 x.k, .int .i64 x.at_, .int .i64 x.id, .int .i64 x.n, .string ⟨x.s.toArray⟩, .int .u64 ((x.a : Nat) : Int), .int .u64 ((x.b : Nat) : Int), .bool x.on, .bool x.v6, .int .u64 ((x.hi : Nat) : Int), .int .u64 ((x.lo : Nat) : Int), .int .i64 x.pk, .int .i64 x.ps]) (.agg #[.int .i64 x.k, .int .i64 x.at_, .int .i64 x.id, .int .i64 x.n, .string ⟨x.s.toArray⟩, .int .u64 ((x.a : Nat) : Int), .int .u64 ((x.b : Nat) : Int), .bool x.on, .bool x.v6, .int .u64 ((x.hi : Nat) : Int), .int .u64 ((x.lo : Nat) : Int), .int .i64 x.pk, .int .i64 x.ps])).run Tryd.prog W = .ok (.bool false) W := fun W => by
        have h := act_neq x x W
        rw [show eqL x x = true from eqL_iff.2 rfl] at h
        exact h
      clear RA RB
      have hd := (Below.refl wr.heap.size wr).drew
      have hS0 := And.intro hd (hC.out _ hd)
      go_wp2_with fail
      refine wp_region_held_drew (S := fun W => Below wr.heap.size wr W ∧ W.cell? (aa.add (j * 13)) = some (.int .i64 x.k) ∧ W.cell? ⟨(aa.add (j * 13)).block, (aa.add (j * 13)).off + 1, none⟩ = some (.int .i64 x.at_) ∧ W.cell? ⟨(aa.add (j * 13)).block, (aa.add (j * 13)).off + 2, none⟩ = some (.int .i64 x.id) ∧ W.cell? ⟨(aa.add (j * 13)).block, (aa.add (j * 13)).off + 3, none⟩ = some (.int .i64 x.n) ∧ W.cell? ⟨(aa.add (j * 13)).block, (aa.add (j * 13)).off + 4, none⟩ = some (.string ⟨x.s.toArray⟩) ∧ W.cell? ⟨(aa.add (j * 13)).block, (aa.add (j * 13)).off + 5, none⟩ = some (.int .u64 ((x.a : Nat) : Int)) ∧ W.cell? ⟨(aa.add (j * 13)).block, (aa.add (j * 13)).off + 6, none⟩ = some (.int .u64 ((x.b : Nat) : Int)) ∧ W.cell? ⟨(aa.add (j * 13)).block, (aa.add (j * 13)).off + 7, none⟩ = some (.bool x.on) ∧ W.cell? ⟨(aa.add (j * 13)).block, (aa.add (j * 13)).off + 8, none⟩ = some (.bool x.v6) ∧ W.cell? ⟨(aa.add (j * 13)).block, (aa.add (j * 13)).off + 9, none⟩ = some (.int .u64 ((x.hi : Nat) : Int)) ∧ W.cell? ⟨(aa.add (j * 13)).block, (aa.add (j * 13)).off + 10, none⟩ = some (.int .u64 ((x.lo : Nat) : Int)) ∧ W.cell? ⟨(aa.add (j * 13)).block, (aa.add (j * 13)).off + 11, none⟩ = some (.int .i64 x.pk) ∧ W.cell? ⟨(aa.add (j * 13)).block, (aa.add (j * 13)).off + 12, none⟩ = some (.int .i64 x.ps) ∧ W.cell? (ab.add (j * 13)) = some (.int .i64 x.k) ∧ W.cell? ⟨(ab.add (j * 13)).block, (ab.add (j * 13)).off + 1, none⟩ = some (.int .i64 x.at_) ∧ W.cell? ⟨(ab.add (j * 13)).block, (ab.add (j * 13)).off + 2, none⟩ = some (.int .i64 x.id) ∧ W.cell? ⟨(ab.add (j * 13)).block, (ab.add (j * 13)).off + 3, none⟩ = some (.int .i64 x.n) ∧ W.cell? ⟨(ab.add (j * 13)).block, (ab.add (j * 13)).off + 4, none⟩ = some (.string ⟨x.s.toArray⟩) ∧ W.cell? ⟨(ab.add (j * 13)).block, (ab.add (j * 13)).off + 5, none⟩ = some (.int .u64 ((x.a : Nat) : Int)) ∧ W.cell? ⟨(ab.add (j * 13)).block, (ab.add (j * 13)).off + 6, none⟩ = some (.int .u64 ((x.b : Nat) : Int)) ∧ W.cell? ⟨(ab.add (j * 13)).block, (ab.add (j * 13)).off + 7, none⟩ = some (.bool x.on) ∧ W.cell? ⟨(ab.add (j * 13)).block, (ab.add (j * 13)).off + 8, none⟩ = some (.bool x.v6) ∧ W.cell? ⟨(ab.add (j * 13)).block, (ab.add (j * 13)).off + 9, none⟩ = some (.int .u64 ((x.hi : Nat) : Int)) ∧ W.cell? ⟨(ab.add (j * 13)).block, (ab.add (j * 13)).off + 10, none⟩ = some (.int .u64 ((x.lo : Nat) : Int)) ∧ W.cell? ⟨(ab.add (j * 13)).block, (ab.add (j * 13)).off + 11, none⟩ = some (.int .i64 x.pk) ∧ W.cell? ⟨(ab.add (j * 13)).block, (ab.add (j * 13)).off + 12, none⟩ = some (.int .i64 x.ps)) (by kernel_rfl) hS0 (fun hHeld => ?_)
      generalize wr.drew = wd at *
      refine' tk 0 rfl rfl ?_ ?_; rotate_left; · ((intro w hSw; (try dsimp only at hSw); go_simp) <;> with_reducible rfl); try go_frame
      refine' tk 1 rfl rfl ?_ ?_; rotate_left; · ((intro w hSw; (try dsimp only at hSw); go_simp) <;> with_reducible rfl); try go_frame
      refine' tk 2 rfl rfl ?_ ?_; rotate_left; · ((intro w hSw; (try dsimp only at hSw); go_simp) <;> with_reducible rfl); try go_frame
      refine' tk 3 rfl rfl ?_ ?_; rotate_left; · ((intro w hSw; (try dsimp only at hSw); go_simp) <;> with_reducible rfl); try go_frame
      refine' tk 4 rfl rfl ?_ ?_; rotate_left; · ((intro w hSw; (try dsimp only at hSw); go_simp) <;> with_reducible rfl); try go_frame
      refine' tk 5 rfl rfl ?_ ?_; rotate_left; · ((intro w hSw; (try dsimp only at hSw); go_simp) <;> with_reducible rfl); try go_frame
      refine' tk 6 rfl rfl ?_ ?_; rotate_left; · ((intro w hSw; (try dsimp only at hSw); go_simp) <;> with_reducible rfl); try go_frame
      refine' tk 7 rfl rfl ?_ ?_; rotate_left; · ((intro w hSw; (try dsimp only at hSw); go_simp) <;> with_reducible rfl); try go_frame
      refine wpAnyH_ready (rs := [8]) (by kernel_rfl) (by simp) ?_; refine consH rfl (fun K hK => ?_) AllReadyH.nil
      go_simp
      (go_at_call 45; (with_reducible refine (OFx.out _).mono ?_))
      rintro e w5 ⟨rfl, hb5⟩
      have hbS := below_chain hb5 hHeld.1
      refine hK.out _ _ ⟨hbS, hC.out _ hbS⟩ (fun hHeld1 => ?_)
      clear hK K
      try go_frame
      refine' tk 9 rfl rfl ?_ ?_; rotate_left; · ((intro w hSw; (try dsimp only at hSw); go_simp) <;> with_reducible rfl); try go_frame
      refine wpAnyH_done (by kernel_rfl) ?_ _
      go_wp2_with fail
      go_roundw
      case rel => exact ⟨j + 1, by omega, by go_num, below_chain hbS hb⟩
      case measure => simp [intOf]; omega
    · have hlti : ¬ (j : Int) < (l.length : Int) := by omega
      go_wp2_with fail
      go_ret
      exact ⟨rfl, hb⟩
end Go.Proofs.YtodbgjnccngljaaDoor

namespace Go.Proofs.YtodbgjnccngljaaDoor
open Go Go.RowKit Go.Deep

def awA : ActL := ⟨4, 0, 3, 0, [], 0, 0, true, false, 0, 0, 0, 0⟩
def awB : ActL := ⟨2, 0, 0, 5, [], 0, 0, false, false, 0, 1, 0, 0⟩
theorem aw_p1 : parseP [100, 114, 97, 105, 110, 32, 51, 32, 111, 110] = some awA := by kernel_rfl
theorem aw_p2 : parseP [100, 114, 97, 105, 110, 32, 48, 51, 32, 111, 110] = none := by kernel_rfl
theorem aw_p3 : parseP [116, 105, 99, 107, 32, 45, 48] = none := by kernel_rfl
theorem aw_r : rightL awB = true := by kernel_rfl
theorem aw_l : lineL awB = [97, 100, 100, 32, 53, 32, 48, 46, 48, 46, 48, 46, 49] := by
  have h : lineL awB = Lib.join [[97, 100, 100], Lib.itoa 5, adrTxt false 0 1] [32] := by kernel_rfl
  have h5 : Lib.itoa 5 = [53] := by
    rw [show (5 : Int) = ((5 : Nat) : Int) from rfl, itoa_nat, Lib.decDigits_one (by decide)]
    rfl
  have h2 : Lib.join [[97, 100, 100], [53], adrTxt false 0 1] [32] = [97, 100, 100, 32, 53, 32, 48, 46, 48, 46, 48, 46, 49] := by kernel_rfl
  rw [h, h5, h2]
set_option maxRecDepth 100000 in
set_option maxHeartbeats 16000000 in
theorem law_awake (w : World) (hw : Std w) : Calls Tryd.prog 20 #[] w fun e w' => e = .returned (.bool true) ∧ Below w.heap.size w w' := by
  have P1 := Lib.hid fun W (hb : Below w.heap.size w W) => (show Calls Tryd.prog 41 #[.string ⟨#[100, 114, 97, 105, 110, 32, 51, 32, 111, 110]⟩] W fun e w' => e = .returned (.tuple #[.agg #[.int .i64 4, .int .i64 0, .int .i64 3, .int .i64 0, .string ⟨#[]⟩, .int .u64 0, .int .u64 0, .bool true, .bool false, .int .u64 0, .int .u64 0, .int .i64 0, .int .i64 0], .bool true]) ∧ Below W.heap.size W w' from by
    have h := scr_parse [100, 114, 97, 105, 110, 32, 51, 32, 111, 110] W (hw.below hb) (by decide)
    rw [aw_p1] at h
    exact h)
  have P2 := Lib.hid fun W (hb : Below w.heap.size w W) => (show Calls Tryd.prog 41 #[.string ⟨#[100, 114, 97, 105, 110, 32, 48, 51, 32, 111, 110]⟩] W fun e w' => e = .returned (parseV none) ∧ Below W.heap.size W w' from by
    have h := scr_parse [100, 114, 97, 105, 110, 32, 48, 51, 32, 111, 110] W (hw.below hb) (by decide)
    rw [aw_p2] at h
    exact h)
  have P3 := Lib.hid fun W (hb : Below w.heap.size w W) => (show Calls Tryd.prog 41 #[.string ⟨#[116, 105, 99, 107, 32, 45, 48]⟩] W fun e w' => e = .returned (parseV none) ∧ Below W.heap.size W w' from by
    have h := scr_parse [116, 105, 99, 107, 32, 45, 48] W (hw.below hb) (by decide)
    rw [aw_p3] at h
    exact h)
  have L1 := Lib.hid fun W (hb : Below w.heap.size w W) => (show Calls Tryd.prog 42 #[.agg #[.int .i64 2, .int .i64 0, .int .i64 0, .int .i64 5, .string ⟨#[]⟩, .int .u64 0, .int .u64 0, .bool false, .bool false, .int .u64 0, .int .u64 1, .int .i64 0, .int .i64 0]] W fun e w' => e = .returned (.tuple #[.string ⟨#[97, 100, 100, 32, 53, 32, 48, 46, 48, 46, 48, 46, 49]⟩, .bool true]) ∧ Below W.heap.size W w' from by
    have h := scr_line awB W (hw.below hb) ⟨by decide, by decide, by decide, by decide⟩ (by decide)
    rw [aw_r, if_pos rfl, aw_l] at h
    exact h)
  have EQ : ∀ W, (binOp .eql 65 (.agg #[.int .i64 4, .int .i64 0, .int .i64 3, .int .i64 0, .string ⟨#[]⟩, .int .u64 0, .int .u64 0, .bool true, .bool false, .int .u64 0, .int .u64 0, .int .i64 0, .int .i64 0]) (.agg #[.int .i64 4, .int .i64 0, .int .i64 3, .int .i64 0, .string ⟨#[]⟩, .int .u64 0, .int .u64 0, .bool true, .bool false, .int .u64 0, .int .u64 0, .int .i64 0, .int .i64 0])).run Tryd.prog W = .ok (.bool true) W := fun W => by
    have h := act_eql awA awA W
    rw [show eqL awA awA = true from eqL_iff.2 rfl] at h
    exact h
  have hG := act_guard
  simp only [parseV] at P2 P3
  clear hw
  go_enter Tryd.func20, Tryd.ntmps20
  go_upto_region 2 with (go_at_call 41; (refine (P1.out _ (Below.refl _ _)).mono ?_); rintro e w2 ⟨rfl, hb2⟩)
  have K1 : Blk (w2.alloc (.cells #[.int .i64 4, .int .i64 0, .int .i64 3, .int .i64 0, .string ⟨#[]⟩, .int .u64 0, .int .u64 0, .bool true, .bool false, .int .u64 0, .int .u64 0, .int .i64 0, .int .i64 0] 65)) w2.heap.size 65 (actCs awA) := Blk.new w2 65 _
  have hb3 := below_alloc hb2 (.cells #[.int .i64 4, .int .i64 0, .int .i64 3, .int .i64 0, .string ⟨#[]⟩, .int .u64 0, .int .u64 0, .bool true, .bool false, .int .u64 0, .int .u64 0, .int .i64 0, .int .i64 0] 65)
  generalize w2.alloc (.cells #[.int .i64 4, .int .i64 0, .int .i64 3, .int .i64 0, .string ⟨#[]⟩, .int .u64 0, .int .u64 0, .bool true, .bool false, .int .u64 0, .int .u64 0, .int .i64 0, .int .i64 0] 65) = w3 at *
  go_upto_region 3 with (go_at_call 41; (refine (P2.out _ hb3).mono ?_); rintro e w4 ⟨rfl, hb4⟩)
  have K2 := (K1.call hb4).alloc (.cells #[.int .i64 0, .int .i64 0, .int .i64 0, .int .i64 0, .string ⟨#[]⟩, .int .u64 0, .int .u64 0, .bool false, .bool false, .int .u64 0, .int .u64 0, .int .i64 0, .int .i64 0] 65)
  have hb5 := below_alloc (below_chain hb4 hb3) (.cells #[.int .i64 0, .int .i64 0, .int .i64 0, .int .i64 0, .string ⟨#[]⟩, .int .u64 0, .int .u64 0, .bool false, .bool false, .int .u64 0, .int .u64 0, .int .i64 0, .int .i64 0] 65)
  generalize w4.alloc (.cells #[.int .i64 0, .int .i64 0, .int .i64 0, .int .i64 0, .string ⟨#[]⟩, .int .u64 0, .int .u64 0, .bool false, .bool false, .int .u64 0, .int .u64 0, .int .i64 0, .int .i64 0] 65) = w5 at *
  go_upto_region 4 with (go_at_call 41; (refine (P3.out _ hb5).mono ?_); rintro e w6 ⟨rfl, hb6⟩)
  have K3 := (K2.call hb6).alloc (.cells #[.int .i64 0, .int .i64 0, .int .i64 0, .int .i64 0, .string ⟨#[]⟩, .int .u64 0, .int .u64 0, .bool false, .bool false, .int .u64 0, .int .u64 0, .int .i64 0, .int .i64 0] 65)
  have hb7 := below_alloc (below_chain hb6 hb5) (.cells #[.int .i64 0, .int .i64 0, .int .i64 0, .int .i64 0, .string ⟨#[]⟩, .int .u64 0, .int .u64 0, .bool false, .bool false, .int .u64 0, .int .u64 0, .int .i64 0, .int .i64 0] 65)
  generalize w6.alloc (.cells #[.int .i64 0, .int .i64 0, .int .i64 0, .int .i64 0, .string ⟨#[]⟩, .int .u64 0, .int .u64 0, .bool false, .bool false, .int .u64 0, .int .u64 0, .int .i64 0, .int .i64 0] 65) = w7 at *
  go_upto_region 5 with (go_at_call 42; (refine (L1.out _ hb7).mono ?_); rintro e w8 ⟨rfl, hb8⟩)
  have K4 := K3.call hb8
  have d0 : w8.cell? ⟨w2.heap.size, 0, none⟩ = some (.int .i64 4) := K4.cell 0
  have d1 : w8.cell? ⟨w2.heap.size, 1, none⟩ = some (.int .i64 0) := K4.cell 1
  have d2 : w8.cell? ⟨w2.heap.size, 2, none⟩ = some (.int .i64 3) := K4.cell 2
  have d3 : w8.cell? ⟨w2.heap.size, 3, none⟩ = some (.int .i64 0) := K4.cell 3
  have d4 : w8.cell? ⟨w2.heap.size, 4, none⟩ = some (.string ⟨#[]⟩) := K4.cell 4
  have d5 : w8.cell? ⟨w2.heap.size, 5, none⟩ = some (.int .u64 0) := K4.cell 5
  have d6 : w8.cell? ⟨w2.heap.size, 6, none⟩ = some (.int .u64 0) := K4.cell 6
  have d7 : w8.cell? ⟨w2.heap.size, 7, none⟩ = some (.bool true) := K4.cell 7
  have d8 : w8.cell? ⟨w2.heap.size, 8, none⟩ = some (.bool false) := K4.cell 8
  have d9 : w8.cell? ⟨w2.heap.size, 9, none⟩ = some (.int .u64 0) := K4.cell 9
  have d10 : w8.cell? ⟨w2.heap.size, 10, none⟩ = some (.int .u64 0) := K4.cell 10
  have d11 : w8.cell? ⟨w2.heap.size, 11, none⟩ = some (.int .i64 0) := K4.cell 11
  have d12 : w8.cell? ⟨w2.heap.size, 12, none⟩ = some (.int .i64 0) := K4.cell 12
  have hbF := below_chain hb8 hb7
  clear P1 P2 P3 L1 K1 K2 K3 K4 hb2 hb3 hb4 hb5 hb6 hb7 hb8
  go_wp2_with fail
  go_ret
  exact ⟨rfl, hbF⟩
end Go.Proofs.YtodbgjnccngljaaDoor

namespace Go.Proofs.YtodbgjnccngljaaDoor
open Go Go.RowKit Go.Deep

theorem reads_up {w : World} {B B' m n : Nat} {A : Option Addr} {xs : List Value} (h : Reads w B m A n xs) (hb : B ≤ B') : Reads w B' m A n xs :=
  ⟨h.1, fun h0 => by obtain ⟨ad, e, h1, h2⟩ := h.2 h0; exact ⟨ad, e, Nat.lt_of_lt_of_le h1 hb, h2⟩⟩
/-- What an act that a law is given keeps to. -/
def actIn (x : ActL) : Prop := inL x ∧ x.s.length ≤ 9223372036854775807
theorem sl_str (a b : List UInt8) : (⟨a.toArray⟩ : ByteArray) ++ ⟨b.toArray⟩ = ⟨(a ++ b).toArray⟩ := str_append a b
theorem parts_mid (tail : List UInt8) (M : Nat) (ht : ∀ x ∈ parts 10 tail, x.length ≤ M) : ∀ (l : List ActL), (∀ x ∈ l, rightL x = true ∧ (lineL x).length ≤ M) → ∀ y ∈ parts 10 (linesL l ++ tail), y.length ≤ M
  | [], _, y, hy => ht y (by simpa [linesL] using hy)
  | x :: l, h, y, hy => by
    obtain ⟨hr, hlen⟩ := h x (List.mem_cons_self ..)
    obtain ⟨k0, k11⟩ := right_k hr
    have e : linesL (x :: l) ++ tail = lineL x ++ 10 :: (linesL l ++ tail) := by simp [linesL]
    rw [e, parts_nl _ _ (line_nl x k0 k11)] at hy
    rcases List.mem_cons.1 hy with rfl | hy
    · exact hlen
    · exact parts_mid tail M ht l (fun z hz => h z (List.mem_cons_of_mem _ hz)) y hy
/-- The text that the law reads. -/
def backL (l : List ActL) (more : List UInt8) : List UInt8 := 35 :: (more ++ 10 :: 10 :: (linesL l ++ [35, 32, 101, 110, 100]))
theorem back_parts (l : List ActL) (more : List UInt8) (hm : (10 : UInt8) ∉ more) (hl : more.length ≤ 40) (h : ∀ x ∈ l, rightL x = true ∧ (lineL x).length ≤ 10000) : ∀ y ∈ parts 10 (backL l more), y.length ≤ 10000 := by
  have e : backL l more = (35 :: more) ++ 10 :: ([] ++ 10 :: (linesL l ++ [35, 32, 101, 110, 100])) := by simp [backL]
  rw [e, parts_nl _ _ (by intro hh; rcases List.mem_cons.1 hh with hh | hh; exact absurd hh (by decide); exact hm hh), parts_nl _ _ (by simp)]
  intro y hy
  rcases List.mem_cons.1 hy with rfl | hy
  · simp; omega
  · rcases List.mem_cons.1 hy with rfl | hy
    · simp
    · refine parts_mid _ 10000 ?_ l h y hy
      rw [parts_none 10 _ (by decide)]
      intro z hz
      rw [List.mem_singleton] at hz
      rw [hz]
      simp
theorem back_read (l : List ActL) (more : List UInt8) (hm : (10 : UInt8) ∉ more) (h : ∀ x ∈ l, rightL x = true ∧ inL x) (hl : l.length ≤ 30) : rdA (backL l more) = l ∧ rdN (backL l more) = 0 ∧ rdE (backL l more) = 0 := by
  have hR : rdR (backL l more) = (0, l) := rd_back l more h hm
  unfold rdA rdN rdE
  rw [hR]
  refine ⟨?_, rfl, ?_⟩
  · rw [if_neg (by simp), if_neg (by show ¬ 200 < l.length; omega)]
  · rw [if_neg (by simp), if_neg (by show ¬ 200 < l.length; omega)]
set_option maxRecDepth 100000 in
set_option maxHeartbeats 16000000 in
theorem back_no (A : Option Addr) (c : Nat) (l : List ActL) (more : List UInt8) (w : World) (hw : Std w) (hrd : Reads w w.heap.size 13 A l.length (l.flatMap actC)) (hm : more.length ≤ 9223372036854775807) (hf : fewL l 30 = false ∨ 40 < more.length) :
    Calls Tryd.prog 5 #[.slice A l.length c, .string ⟨more.toArray⟩] w fun e w' => e = .returned (.bool true) ∧ Below w.heap.size w w' := by
  have FW := law_few A c l 30 w hrd (by omega)
  have AW := Lib.hid fun W (hb : Below w.heap.size w W) => law_awake W (hw.below hb)
  cases hfw : fewL l 30 with
  | false =>
    rw [hfw] at FW
    replace FW := Lib.hid (show Calls Tryd.prog 19 #[.slice A l.length c, .int .i64 30] w _ from FW)
    clear hfw hf
    go_enter Tryd.func5, Tryd.ntmps5
    go_wp2_with (first
      | (go_at_call 19; (refine FW.out.mono ?_); rintro e w2 ⟨rfl, hb2⟩)
      | (go_at_call 20; (refine (AW.out _ hb2).mono ?_); rintro e w3 ⟨rfl, hb3⟩))
    go_ret
    exact ⟨rfl, below_chain hb3 hb2⟩
  | true =>
    rw [hfw] at FW hf
    have h40 : 40 < more.length := by rcases hf with h | h; cases h; exact h
    have h40i : (40 : Int) < (more.length : Int) := by omega
    replace FW := Lib.hid (show Calls Tryd.prog 19 #[.slice A l.length c, .int .i64 30] w _ from FW)
    clear hfw hf
    go_enter Tryd.func5, Tryd.ntmps5
    go_wp2_with (first
      | (go_at_call 19; (refine FW.out.mono ?_); rintro e w2 ⟨rfl, hb2⟩)
      | (go_at_call 20; (refine (AW.out _ hb2).mono ?_); rintro e w3 ⟨rfl, hb3⟩))
    go_ret
    exact ⟨rfl, below_chain hb3 hb2⟩
set_option maxRecDepth 100000 in
set_option maxHeartbeats 32000000 in
theorem back_yes (A : Option Addr) (c : Nat) (l : List ActL) (more : List UInt8) (w : World) (hw : Std w) (hrd : Reads w w.heap.size 13 A l.length (l.flatMap actC)) (hin : ∀ x ∈ l, inL x) (hf : fewL l 30 = true) (h40 : more.length ≤ 40) :
    Calls Tryd.prog 5 #[.slice A l.length c, .string ⟨more.toArray⟩] w fun e w' => e = .returned (.bool true) ∧ Below w.heap.size w w' := by
  have FW := law_few A c l 30 w hrd (by omega)
  rw [hf] at FW
  replace FW := Lib.hid (show Calls Tryd.prog 19 #[.slice A l.length c, .int .i64 30] w _ from FW)
  obtain ⟨hl30, hs200⟩ := few_iff.1 hf
  have AW := Lib.hid fun W (hb : Below w.heap.size w W) => law_awake W (hw.below hb)
  have LS := Lib.hid fun W (hb : Below w.heap.size w W) => law_list A c l W (reads_up (hrd.below hb) hb.size) (by omega)
  have g40 : ¬ (40 : Int) < (more.length : Int) := by omega
  replace hrd := Lib.hid hrd
  clear hf
  go_enter Tryd.func5, Tryd.ntmps5
  go_wp2_with (go_at_call 19; (refine FW.out.mono ?_); rintro e w2 ⟨rfl, hb2⟩)
  go_loopw [5] (fun i wr => ∃ j : Nat, j ≤ more.length ∧ i = .int .i64 (j : Nat) ∧ (10 : UInt8) ∉ more.take j ∧ Below w.heap.size w wr) (fun i _ => more.length - (intOf i).toNat)
  case atStart => exact ⟨0, by omega, rfl, by simp, hb2⟩
  case round =>
    obtain ⟨j, hj, rfl, hno, hb⟩ := hrel
    by_cases hlt : j < more.length
    · have hlti : (j : Int) < (more.length : Int) := by omega
      have hi0 := fun W => idx_str more j W hlt
      have hno2 : more.getD j 0 ≠ 10 → (10 : UInt8) ∉ more.take (j + 1) := fun hd h => by
        rw [List.take_add_one, List.getElem?_eq_getElem hlt] at h
        rcases List.mem_append.1 h with h | h
        · exact hno h
        · rw [List.getD_eq_getElem?_getD, List.getElem?_eq_getElem hlt] at hd
          simp at h hd
          exact hd h.symm
      obtain ⟨d, hd⟩ : ∃ d, more.getD j 0 = d := ⟨_, rfl⟩
      rw [hd] at hi0 hno2
      clear hd
      by_cases he : d = 10
      · have hbq : ((d.toNat : Int) == 10) = true := by rw [he]; rfl
        clear hno hno2 he
        go_wp2_with (go_at_call 20; (refine (AW.out _ hb).mono ?_); rintro e w3 ⟨rfl, hb3⟩)
        go_ret
        exact ⟨rfl, below_chain hb3 hb⟩
      · have hbq : ((d.toNat : Int) == 10) = false := by
          rw [beq_eq_false_iff_ne]
          intro e
          exact he (UInt8.toNat_inj.1 (by have : (10 : UInt8).toNat = 10 := rfl; omega))
        have hno3 := Lib.hid (hno2 he)
        clear hno hno2 he
        go_wp2_with fail
        go_roundw
        case rel => exact ⟨j + 1, by omega, by go_num, hno3.out, hb⟩
        case measure => simp [intOf]; omega
    · have hlti : ¬ (j : Int) < (more.length : Int) := by omega
      obtain rfl : j = more.length := by omega
      rw [List.take_length] at hno
      have LSr := Lib.hid (LS.out wr hb)
      cases hok : textOk l with
      | false =>
        have hin2 := Lib.hid fun x hx => And.intro (hin x hx) (Nat.le_trans (hs200 x hx) (show 200 ≤ 10000 by omega))
        replace hok := Lib.hid hok
        clear hno hin hs200
        go_wp2_with (first
          | (go_at_call 22; (refine LSr.out.mono ?_); rintro e w3 ⟨B, k, rfl, hO3, hb3⟩; have hb3w := below_chain hb3 hb; have T3 := scr_txt B k l w3 (hw.below hb3w) hO3.reads hin2.out (by omega); rw [hok.out] at T3; replace T3 := Lib.hid (show Calls Tryd.prog 21 #[.slice B l.length k] w3 fun e w' => e = .returned (.tuple #[.string ⟨#[]⟩, .bool false]) ∧ Below w3.heap.size w3 w' from T3); replace hO3 := Lib.hid hO3)
          | (go_at_call 21; (refine T3.out.mono ?_); rintro e w4 ⟨rfl, hb4⟩; have hb4w := below_chain hb4 hb3w)
          | (go_at_call 20; (refine (AW.out _ hb4w).mono ?_); rintro e w5 ⟨rfl, hb5⟩))
        go_ret
        exact ⟨rfl, below_chain hb5 hb4w⟩
      | true =>
        have hall : ∀ x ∈ l, rightL x = true := by
          unfold textOk at hok
          rw [Bool.and_eq_true] at hok
          exact List.all_eq_true.1 hok.2
        have hin2 := Lib.hid fun x hx => And.intro (hin x hx) (Nat.le_trans (hs200 x hx) (show 200 ≤ 10000 by omega))
        have hri : ∀ x ∈ l, rightL x = true ∧ inL x := fun x hx => ⟨hall x hx, hin x hx⟩
        have hll : ∀ x ∈ l, rightL x = true ∧ (lineL x).length ≤ 10000 := fun x hx => ⟨hall x hx, by have := line_len (hall x hx) (hin x hx); have := hs200 x hx; omega⟩
        obtain ⟨r1, r2, r3⟩ := back_read l more hno hri hl30
        have hparts := back_parts l more hno h40 hll
        have hzl := lines_len (l := l) (m := 200) (fun x hx => ⟨hall x hx, hin x hx, hs200 x hx⟩)
        have hz2 : l.length * (10 * 200 + 601) ≤ 30 * (10 * 200 + 601) := Nat.mul_le_mul_right _ hl30
        have hbl : (backL l more).length ≤ 900000 := by unfold backL; simp; omega
        have RD := Lib.hid fun W (hb : Below w.heap.size w W) => (show Calls Tryd.prog 23 #[.string ⟨(backL l more).toArray⟩] W fun e w' => ∃ A c, e = .returned (.tuple #[.slice A l.length c, .int .i64 0, .int .i64 0]) ∧ OwnF w' W.heap.size A c l ∧ Below W.heap.size W w' from by
          have h := scr_read (backL l more) W (hw.below hb) hbl hparts
          rw [r1, r2, r3] at h
          exact h)
        obtain ⟨S, hS⟩ : ∃ S, linesL l = S := ⟨_, rfl⟩
        have k1 : (ByteArray.mk #[35]) ++ ⟨more.toArray⟩ = ⟨([35] ++ more).toArray⟩ := sl_str [35] more
        have k2 : (⟨([35] ++ more).toArray⟩ : ByteArray) ++ ⟨#[10, 10]⟩ = ⟨(([35] ++ more) ++ [10, 10]).toArray⟩ := sl_str ([35] ++ more) [10, 10]
        have k3 : (⟨(([35] ++ more) ++ [10, 10]).toArray⟩ : ByteArray) ++ ⟨S.toArray⟩ = ⟨((([35] ++ more) ++ [10, 10]) ++ S).toArray⟩ := sl_str _ S
        have k4 : (⟨((([35] ++ more) ++ [10, 10]) ++ S).toArray⟩ : ByteArray) ++ ⟨#[35, 32, 101, 110, 100]⟩ = ⟨(backL l more).toArray⟩ := by
          rw [sl_str _ [35, 32, 101, 110, 100]]
          congr 2
          unfold backL
          rw [hS]
          simp
        have hSl : S.length ≤ 100000 := by rw [← hS]; omega
        generalize hT : backL l more = T at *
        obtain ⟨t1, ht1⟩ : ∃ t1, [35] ++ more = t1 := ⟨_, rfl⟩
        have ht1l : t1.length ≤ 41 := by rw [← ht1]; simp; omega
        rw [ht1] at k1 k2 k3 k4
        obtain ⟨t2, ht2⟩ : ∃ t2, t1 ++ [10, 10] = t2 := ⟨_, rfl⟩
        have ht2l : t2.length ≤ 43 := by rw [← ht2]; simp; omega
        rw [ht2] at k2 k3 k4
        obtain ⟨t3, ht3⟩ : ∃ t3, t2 ++ S = t3 := ⟨_, rfl⟩
        have ht3l : t3.length ≤ 100043 := by rw [← ht3]; simp; omega
        rw [ht3] at k3 k4
        have b1 : ¬ 9223372036854775807 < 1 + more.length := by omega
        have b2 : ¬ 9223372036854775807 < t1.length + 2 := by omega
        have b3 : ¬ 9223372036854775807 < t2.length + S.length := by omega
        have b4 : ¬ 9223372036854775807 < t3.length + 5 := by omega
        replace hok := Lib.hid hok
        replace hS := Lib.hid hS
        clear hno hin hs200 hall hri hll r1 r2 r3 hparts hzl hz2 hbl hT ht1 ht2 ht3 ht1l ht2l ht3l hSl
        have SM := Lib.hid fun W (A2 : Option Addr) (c2 : Nat) (hb : Below w.heap.size w W) (hO : Reads W W.heap.size 13 A2 l.length (l.flatMap actC)) => law_same A2 A c2 c l W hO (reads_up (hrd.out.below hb) hb.size) (by omega)
        go_wp2_with (first
          | (go_at_call 22; (refine LSr.out.mono ?_); rintro e w3 ⟨B, k, rfl, hO3, hb3⟩; have hb3w := below_chain hb3 hb; have T3 := scr_txt B k l w3 (hw.below hb3w) hO3.reads hin2.out (by omega); rw [hok.out, if_pos rfl, hS.out] at T3; replace T3 := Lib.hid T3; replace hO3 := Lib.hid hO3)
          | (go_at_call 21; (refine T3.out.mono ?_); rintro e w4 ⟨rfl, hb4⟩; have hb4w := below_chain hb4 hb3w)
          | (go_at_call 23; (refine (RD.out _ hb4w).mono ?_); rintro e w5 ⟨B5, k5, rfl, hO5, hb5⟩; have hb5w := below_chain hb5 hb4w; replace hO5 := Lib.hid hO5)
          | (go_at_call 24; (refine (SM.out _ B5 k5 hb5w hO5.out.reads).mono ?_); rintro e w6 ⟨rfl, hb6⟩; have hb6w := below_chain hb6 hb5w)
          | (go_at_call 20; (refine (AW.out _ hb6w).mono ?_); rintro e w7 ⟨rfl, hb7⟩))
        go_ret
        exact ⟨rfl, below_chain hb7 hb6w⟩
theorem scriptBack_calls (A : Option Addr) (c : Nat) (l : List ActL) (more : List UInt8) (w : World) (hw : Std w) (hrd : Reads w w.heap.size 13 A l.length (l.flatMap actC)) (hin : ∀ x ∈ l, actIn x) (hm : more.length ≤ 9223372036854775807) :
    Calls Tryd.prog 5 #[.slice A l.length c, .string ⟨more.toArray⟩] w fun e w' => e = .returned (.bool true) ∧ Below w.heap.size w w' := by
  cases hf : fewL l 30 with
  | false => exact back_no A c l more w hw hrd hm (Or.inl hf)
  | true =>
    by_cases h40 : 40 < more.length
    · exact back_no A c l more w hw hrd hm (Or.inr h40)
    · exact back_yes A c l more w hw hrd (fun x hx => (hin x hx).1) hf (by omega)
end Go.Proofs.YtodbgjnccngljaaDoor
