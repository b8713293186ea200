/- The document's Text and Read. Law 40: few, list, same. Law 40: awake. Law 40: acts come back from their text. Law 40: texts of acts, and acts of texts, are the document's. -/
import Derived.Test.YtodbgjnccngljaaGreatDoorJ35
namespace Go.Proofs.YtodbgjnccngljaaGreatDoor
open Go Go.RowKit Go.Deep
theorem info_ract : (Tryz.prog.info? 28).map (fun i => (i.zero, i.size, i.bytes)) = some (some (.agg #[.int .i64 0, .int .i64 0, .int .i64 0, .int .i64 0, .string ⟨#[]⟩, .int .u64 0, .int .u64 0, .bool false, .bool false, .int .u64 0, .int .u64 0, .int .i64 0, .int .i64 0]), 13, 112) := by kernel_rfl
abbrev OwnG (w : World) (base : Nat) (A : Option Addr) (c : Nat) (l : List ActL) : Prop := OwnA actC 13 28 w base A c l
theorem wpList_push_ract {W : World} {cs : Array Value} {ops : Array Oper} {rest : List Oper} {o : Oper} {a : Act} {Q : Exit → Act → World → Prop} (hgd : o.guard = none) (s x : Operand)
  (ho : o.op = .call { callee := .builtin .append, args := #[s, x], argTypes := #[44, 44] })
  (base : Nat) (A : Option Addr) (c : Nat) (l : List ActL) (v : ActL) (n : Nat) (hn : l.length = n) (hs : a.eval s = .slice A n c) (hown : OwnG W base A c l) (g : Nat) (hg : g = W.heap.size) (hcs : actCs v = cs)
  (hx : a.eval x = .slice (some ⟨g, 0, none⟩) 1 1) (hl : n ≤ 1000000) (hbase : base ≤ W.heap.size)
  (h : ∀ A' c' w', OwnG w' base A' c' (l ++ [v]) → Pushed W w' A A' → wpList Tryz.prog ops Q rest (a.put o.dst (.slice A' (n + 1) c')) w') : wpList Tryz.prog ops Q (o :: rest) a (W.alloc (.cells cs 28)) := by
 obtain ⟨i0, hi0, hz0, hz1, hz2⟩ := info_parts info_ract
 exact wpList_push actC 13 (fun _ => rfl) actC_one (by omega) 44 i0 _ 112 Tryz.underlying44 hi0 hz0 hz1 hz2 rfl (by omega) hgd s x ho base A c l v n hn hs hown g hg hcs hx (by omega) hbase h
theorem own_cell {w : World} {base g c : Nat} {xs : List (List UInt8)} (h : OwnS w base (some ⟨g, 0, none⟩) c xs) {j : Nat} (hj : j < xs.length) : w.cell? ⟨g, j, none⟩ = some (.string ⟨(xs.getD j []).toArray⟩) := by
 obtain ⟨ad, e, -, hc⟩ := own_at h hj
 cases e
 have e : (⟨g, 0, none⟩ : Addr).add j = ⟨g, j, none⟩ := by unfold Addr.add; split <;> simp_all
 rw [← e]; exact hc
set_option maxRecDepth 100000 in
set_option maxHeartbeats 16000000 in
theorem rs_text (A : Option Addr) (c : Nat) (l : List ActL) (w : World) (hrd : Reads w w.heap.size 13 A l.length (l.flatMap actC)) (hin : ∀ x ∈ l, inL x ∧ x.s.length ≤ 10000) (hl : l.length ≤ 1000) :
  Calls Tryz.prog 16 #[.slice A l.length c] w fun e w' => e = .returned (.tuple #[.string ⟨(if textOk l then linesL l else []).toArray⟩, .bool (textOk l)]) ∧ Below w.heap.size w w' := by
 obtain ⟨p, hp⟩ : ∃ p, textOk l = p := ⟨_, rfl⟩
 rw [hp]
 have hpf : (∀ x ∈ l, rightL x = true) → l.length ≤ 200 → p = true := fun h h2 => by
  rw [← hp]; unfold textOk; rw [decide_eq_true h2, List.all_eq_true.2 h]; rfl
 have hpn : p = true → (∀ x ∈ l, rightL x = true) ∧ l.length ≤ 200 := fun h => by
  rw [← hp] at h; unfold textOk at h; rw [Bool.and_eq_true] at h
  exact ⟨List.all_eq_true.1 h.2, of_decide_eq_true h.1⟩
 clear hp
 replace hin := Lib.hid hin
 replace hpf := Lib.hid hpf
 replace hpn := Lib.hid hpn
 go_enter Tryz.func16, Tryz.ntmps16
 go_wp2_with fail
 go_loopw [4, 5] (fun s i wr => ∃ j : Nat, j ≤ l.length ∧ j ≤ 200 ∧ i = .int .i64 (j : Nat) ∧ s = .string ⟨(linesL (l.take j)).toArray⟩ ∧ (l.take j).all rightL = true ∧ Below w.heap.size w wr) (fun _ i _ => l.length - (intOf i).toNat)
 case atStart => exact ⟨0, by omega, by omega, rfl, by simp [linesL], by simp, Below.refl _ _⟩
 case round =>
  obtain ⟨j, hj, hj2, rfl, rfl, hm, hbr⟩ := hrel
  by_cases hlt : j < l.length
  ·
   have hlti : (j : Int) < (l.length : Int) := by omega
   have hj0 : (0 : Int) ≤ (j : Int) := by omega
   obtain ⟨ad, rfl, c0, c1, c2, c3, c4, c5, c6, c7, c8, c9, c10, c11, c12⟩ := act_rd (hrd.below hbr) rfl hlt
   have hshort := lines_short l hin.out j hm (by omega)
   have hmem : l.getD j (zeroL 0) ∈ l := by rw [List.getD_eq_getElem?_getD, List.getElem?_eq_getElem hlt]; exact List.getElem_mem hlt
   obtain ⟨hix, hsx⟩ := hin.out _ hmem
   have htk := lines_take l hlt
   have hat : (l.take (j + 1)).all rightL = ((l.take j).all rightL && rightL (l.getD j (zeroL 0))) := by
    rw [take_actsnoc l hlt, List.all_append]
    simp
   generalize l.getD j (zeroL 0) = x at *
   have LN := rs_line x wr hix (by omega)
   cases hrx : rightL x with
   | false =>
    rw [hrx] at LN
    have hpF : p = false := by
     cases p
     · rfl
     · exact absurd ((hpn.out rfl).1 x hmem) (by rw [hrx]; decide)
    subst hpF
    replace LN := Lib.hid (show Calls Tryz.prog 8 #[.agg #[.int .i64 x.k, .int .i64 x.at_, .int .i64 x.id, .int .i64 x.n, .string ⟨x.s.toArray⟩, .int .u64 ((x.a : Nat) : Int), .int .u64 ((x.b : Nat) : Int), .bool x.on, .bool x.v6, .int .u64 ((x.hi : Nat) : Int), .int .u64 ((x.lo : Nat) : Int), .int .i64 x.pk, .int .i64 x.ps]] wr fun e w' => e = .returned (.tuple #[.string ⟨#[]⟩, .bool false]) ∧ Below wr.heap.size wr w' from LN)
    generalize linesL (l.take j) = acc at *
    clear htk hat hm hrx hmem hshort
    go_wp2_with (go_at_call 8; (refine LN.out.mono ?_); rintro e w3 ⟨rfl, hb3⟩)
    go_ret2
    exact ⟨rfl, below_chain hb3 hbr⟩
   | true =>
    rw [hrx] at LN hat
    have hm2 : (l.take (j + 1)).all rightL = true := by rw [hat, hm]; rfl
    replace LN := Lib.hid (show Calls Tryz.prog 8 #[.agg #[.int .i64 x.k, .int .i64 x.at_, .int .i64 x.id, .int .i64 x.n, .string ⟨x.s.toArray⟩, .int .u64 ((x.a : Nat) : Int), .int .u64 ((x.b : Nat) : Int), .bool x.on, .bool x.v6, .int .u64 ((x.hi : Nat) : Int), .int .u64 ((x.lo : Nat) : Int), .int .i64 x.pk, .int .i64 x.ps]] wr fun e w' => e = .returned (.tuple #[.string ⟨(lineL x).toArray⟩, .bool true]) ∧ Below wr.heap.size wr w' from LN)
    have hxl := line_len hrx hix
    by_cases h200 : j < 200
    ·
     have h2i : ¬ (200 : Int) ≤ (j : Int) := by omega
     obtain ⟨p1, e1, k1, s1, q1⟩ := catA (linesL (l.take j)) (lineL x) (by omega) (by omega)
     have htk2 : linesL (l.take (j + 1)) = p1 ++ [10] := by rw [htk, ← e1]; simp
     have k2 : (⟨p1.toArray⟩ : ByteArray) ++ ⟨#[10]⟩ = ⟨(linesL (l.take (j + 1))).toArray⟩ := by rw [htk2]; exact str_append p1 [10]
     have s2 : ¬ 9223372036854775807 < p1.length + 1 := by omega
     obtain ⟨nxt, hn⟩ : ∃ nxt, linesL (l.take (j + 1)) = nxt := ⟨_, rfl⟩
     rw [hn] at k2
     replace hn := Lib.hid hn
     generalize linesL (l.take j) = acc at *
     generalize lineL x = lx at *
     replace hm2 := Lib.hid hm2
     clear htk htk2 hat hm hrx hmem hshort hxl e1 q1 hsx hix
     go_wp2_with (go_at_call 8; (refine LN.out.mono ?_); rintro e w3 ⟨rfl, hb3⟩)
     have hbN := below_chain hb3 hbr
     go_roundw
     case rel => exact ⟨j + 1, by omega, by omega, by go_num, by rw [hn.out], hm2.out, hbN⟩
     case measure => simp [intOf]; omega
    ·
     have h2i : (200 : Int) ≤ (j : Int) := by omega
     have hpF : p = false := by
      cases p
      · rfl
      · exact absurd (hpn.out rfl).2 (by omega)
     subst hpF
     generalize linesL (l.take j) = acc at *
     generalize lineL x = lx at *
     clear htk hat hm hrx hmem hshort hxl hsx hix hm2
     go_wp2_with (go_at_call 8; (refine LN.out.mono ?_); rintro e w3 ⟨rfl, hb3⟩)
     go_ret2
     exact ⟨rfl, below_chain hb3 hbr⟩
  ·
   have hlti : ¬ (j : Int) < (l.length : Int) := by omega
   obtain rfl : j = l.length := by omega
   rw [List.take_length] at hm ⊢
   have hpT := hpf.out (List.all_eq_true.1 hm) hj2
   subst hpT
   clear hm
   go_wp2_with fail
   go_ret2
   exact ⟨rfl, hbr⟩
set_option maxRecDepth 100000 in
set_option maxHeartbeats 16000000 in
theorem rs_read (t : List UInt8) (w : World) (hL : t.length ≤ 9000) :
  Calls Tryz.prog 18 #[.string ⟨t.toArray⟩] w fun e w' => ∃ A c, e = .returned (.tuple #[.slice A (rdA t).length c, .int .i64 (rdN t : Nat), .int .i64 (rdE t)]) ∧ OwnG w' w.heap.size A c (rdA t) ∧ Below w.heap.size w w' := by
 have S := ref_parts t 10 w (by omega)
 obtain ⟨hpl, hpx⟩ := parts_len 10 t
 obtain ⟨R, hR⟩ : ∃ R, rdR t = R := ⟨_, rfl⟩
 have hA : rdA t = if R.1 ≠ 0 then [] else if 200 < R.2.length then [] else R.2 := by unfold rdA; rw [hR]
 have hN : rdN t = R.1 := by unfold rdN; rw [hR]
 have hE : rdE t = if R.1 ≠ 0 then 3 else if 200 < R.2.length then 9 else 0 := by unfold rdE; rw [hR]
 rw [hA, hN, hE]
 clear hA hN hE
 unfold rdR at hR
 obtain ⟨ps, hps⟩ : ∃ ps, parts 10 t = ps := ⟨_, rfl⟩
 have hne : ps ≠ [] := by rw [← hps]; obtain ⟨a, b, e⟩ := parts_cons 10 t; rw [e]; simp
 rw [hps] at S hR hpx hpl
 replace S := Lib.hid (show Calls Tryz.prog 31 #[.string ⟨t.toArray⟩, .int .u8 10] w _ from S)
 have hpz : ps.length ≤ 9001 := by omega
 have hp : ∀ x ∈ ps, x.length ≤ 9999 := fun x hx => by have := hpx x hx; omega
 clear hps hpl hL hpx
 replace hp := Lib.hid hp
 replace hR := Lib.hid hR
 go_enter Tryz.func18, Tryz.ntmps18
 go_wp2_with (go_at_call 31; refine S.out.mono ?_; rintro e w2 ⟨A1, k1, rfl, hO1, hb2⟩; obtain ⟨g, rfl, -⟩ := own_form hO1 hne; replace hO1 := Lib.hid hO1)
 go_loopw [6, 7] (fun s i wr => ∃ (j : Nat) (A : Option Addr) (k : Nat) (acc : List ActL), j ≤ ps.length ∧ i = .int .i64 (j : Nat) ∧ s = .slice A acc.length k ∧ acc.length ≤ j ∧ R = rdL j (ps.drop j) acc ∧ OwnG wr w2.heap.size A k acc ∧ Below w2.heap.size w2 wr) (fun _ i _ => ps.length - (intOf i).toNat)
 case atStart => exact ⟨0, none, 0, [], by omega, rfl, rfl, by simp, by rw [List.drop_zero]; exact hR.out.symm, OwnA.nil _ _, Below.refl _ _⟩
 case round =>
  obtain ⟨j, A, k, acc, hj, rfl, rfl, hal, hrd, hO, hb⟩ := hrel
  have hsz := hb.size
  by_cases hlt : j < ps.length
  ·
   have hlti : (j : Int) < (ps.length : Int) := by omega
   have hj0 : (0 : Int) ≤ (j : Int) := by omega
   have c9 := own_cell (OwnA.call hO1.out hb) hlt
   rw [rd_drop ps hlt acc] at hrd
   have hxl : (ps.getD j []).length ≤ 9999 := hp.out _ (by rw [List.getD_eq_getElem?_getD, List.getElem?_eq_getElem hlt]; simp)
   have hbw : Below w.heap.size w wr := below_chain hb hb2
   obtain ⟨x, hx⟩ : ∃ x, ps.getD j [] = x := ⟨_, rfl⟩
   rw [hx] at c9 hrd hxl
   replace hx := Lib.hid hx
   replace hO := Lib.hid hO
   by_cases hx0 : x = []
   ·
    subst hx0
    rw [if_pos (Or.inl rfl)] at hrd
    have hrd2 := Lib.hid hrd
    clear hrd hxl
    go_wp2_with fail
    go_roundw
    case rel => exact ⟨j + 1, A, k, acc, by omega, by go_num, rfl, by omega, hrd2.out, hO.out, hb⟩
    case measure => simp [intOf]; omega
   have e2 : x.isEmpty = false := by cases x; exact absurd rfl hx0; rfl
   have e3 : (x == ([] : List UInt8)) = false := by cases x; exact absurd rfl hx0; rfl
   have hl0 : 0 < x.length := by cases x; exact absurd rfl hx0; simp
   have hix : ∀ W, (Instr.index 9 (.string ⟨x.toArray⟩) (.int .i64 0)).run Tryz.prog W = .ok (.int .u8 ((x.headD 0).toNat : Nat)) W := fun W => by
    have h := idx_str x 0 W hl0
    rw [show x.getD 0 0 = x.headD 0 by cases x <;> rfl] at h
    exact h
   by_cases h35 : x.headD 0 = 35
   ·
    rw [if_pos (Or.inr h35)] at hrd
    have hrd2 := Lib.hid hrd
    have hbq : (((x.headD 0).toNat : Int) == 35) = true := by rw [h35]; rfl
    generalize x.headD 0 = d at *
    clear hrd hxl hx0 hl0
    replace h35 := Lib.hid h35
    go_wp2_with fail
    go_roundw
    case rel => exact ⟨j + 1, A, k, acc, by omega, by go_num, rfl, by omega, hrd2.out, hO.out, hb⟩
    case measure => simp [intOf]; omega
   ·
    rw [if_neg (fun h => by rcases h with h | h; exact hx0 h; exact h35 h)] at hrd
    have hbq : (((x.headD 0).toNat : Int) == 35) = false := by
     rw [beq_eq_false_iff_ne]
     intro e
     exact h35 (UInt8.toNat_inj.1 (by have : (35 : UInt8).toNat = 35 := rfl; omega))
    have PA := rs_parse x wr hxl
    generalize x.headD 0 = d at *
    clear hx0 hl0
    replace h35 := Lib.hid h35
    cases hpx : parseP x with
    | none =>
     rw [hpx] at hrd PA
     have hr1 : R = (j + 1, []) := hrd
     subst hr1
     clear hrd hpx hxl
     replace PA := Lib.hid (show Calls Tryz.prog 10 #[.string ⟨x.toArray⟩] wr fun e w' => e = .returned (.tuple #[.agg #[.int .i64 0, .int .i64 0, .int .i64 0, .int .i64 0, .string ⟨#[]⟩, .int .u64 0, .int .u64 0, .bool false, .bool false, .int .u64 0, .int .u64 0, .int .i64 0, .int .i64 0], .bool false]) ∧ Below wr.heap.size wr w' from PA)
     go_wp2_with (go_at_call 10; (refine PA.out.mono ?_); rintro e w3 ⟨rfl, hb3⟩)
     go_ret3
     exact ⟨none, 0, by simp, OwnA.nil _ _, below_alloc (below_chain hb3 hbw) _⟩
    | some a =>
     rw [hpx] at hrd PA
     have hrd2 := Lib.hid (show R = rdL (j + 1) (ps.drop (j + 1)) (acc ++ [a]) from hrd)
     clear hrd hpx hxl
     replace PA := Lib.hid (show Calls Tryz.prog 10 #[.string ⟨x.toArray⟩] wr fun e w' => e = .returned (.tuple #[.agg #[.int .i64 a.k, .int .i64 a.at_, .int .i64 a.id, .int .i64 a.n, .string ⟨a.s.toArray⟩, .int .u64 ((a.a : Nat) : Int), .int .u64 ((a.b : Nat) : Int), .bool a.on, .bool a.v6, .int .u64 ((a.hi : Nat) : Int), .int .u64 ((a.lo : Nat) : Int), .int .i64 a.pk, .int .i64 a.ps], .bool true]) ∧ Below wr.heap.size wr w' from PA)
     go_upto_region 8 with (go_at_call 10; (refine PA.out.mono ?_); rintro e w3 ⟨rfl, hb3⟩)
     have K4 : Blk (w3.alloc (.cells #[.int .i64 a.k, .int .i64 a.at_, .int .i64 a.id, .int .i64 a.n, .string ⟨a.s.toArray⟩, .int .u64 ((a.a : Nat) : Int), .int .u64 ((a.b : Nat) : Int), .bool a.on, .bool a.v6, .int .u64 ((a.hi : Nat) : Int), .int .u64 ((a.lo : Nat) : Int), .int .i64 a.pk, .int .i64 a.ps] 28)) w3.heap.size 28 (actCs a) := Blk.new w3 28 _
     have hO4 := (OwnA.call hO.out hb3).alloc (.cells #[.int .i64 a.k, .int .i64 a.at_, .int .i64 a.id, .int .i64 a.n, .string ⟨a.s.toArray⟩, .int .u64 ((a.a : Nat) : Int), .int .u64 ((a.b : Nat) : Int), .bool a.on, .bool a.v6, .int .u64 ((a.hi : Nat) : Int), .int .u64 ((a.lo : Nat) : Int), .int .i64 a.pk, .int .i64 a.ps] 28)
     have hb4 := below_alloc (below_chain hb3 hb) (.cells #[.int .i64 a.k, .int .i64 a.at_, .int .i64 a.id, .int .i64 a.n, .string ⟨a.s.toArray⟩, .int .u64 ((a.a : Nat) : Int), .int .u64 ((a.b : Nat) : Int), .bool a.on, .bool a.v6, .int .u64 ((a.hi : Nat) : Int), .int .u64 ((a.lo : Nat) : Int), .int .i64 a.pk, .int .i64 a.ps] 28)
     clear c9
     generalize w3.alloc (.cells #[.int .i64 a.k, .int .i64 a.at_, .int .i64 a.id, .int .i64 a.n, .string ⟨a.s.toArray⟩, .int .u64 ((a.a : Nat) : Int), .int .u64 ((a.b : Nat) : Int), .bool a.on, .bool a.v6, .int .u64 ((a.hi : Nat) : Int), .int .u64 ((a.lo : Nat) : Int), .int .i64 a.pk, .int .i64 a.ps] 28) = w4 at *
     obtain ⟨d0, d1, d2, d3, d4, d5, d6, d7, d8, d9, d10, d11, d12⟩ := act13 K4
     have hsz4 := hb4.size
     replace hO4 := Lib.hid hO4
     clear K4
     go_wp2_with (at_builtin; refine wpList_push_ract rfl (.tmp 43) (.tmp 45) rfl w2.heap.size A k acc a _ rfl rfl hO4.out _ rfl rfl rfl (by omega) hsz4 ?_; intro A2 p2 w7 ho7 hp7)
     have hS7 := hp7.below (w0 := w2) (B := w2.heap.size) hb4 hsz4 (fun b hb => (hO4.out.block hb).1)
     replace ho7 := Lib.hid ho7
     go_wp2_with fail
     go_roundw
     case rel => exact ⟨j + 1, A2, p2, acc ++ [a], by omega, by go_num, by simp, by simp; omega, hrd2.out, ho7.out, hS7⟩
     case measure => simp [intOf]; omega
  ·
   have hlti : ¬ (j : Int) < (ps.length : Int) := by omega
   obtain rfl : j = ps.length := by omega
   rw [List.drop_length] at hrd
   have hr1 : R = (0, acc) := hrd
   subst hr1
   have hbw : Below w.heap.size w wr := below_chain hb hb2
   by_cases h2 : 200 < acc.length
   ·
    have h2i : (200 : Int) < (acc.length : Int) := by omega
    clear hrd hO
    go_wp2_with fail
    go_ret3
    exact ⟨none, 0, by simp, by simpa [h2] using OwnA.nil _ _, hbw⟩
   ·
    have h2i : ¬ (200 : Int) < (acc.length : Int) := by omega
    have hO2 := Lib.hid (show OwnG wr w.heap.size A k acc from ⟨hO.1, hO.2.imp (fun x => x) fun ⟨g, cap, cur, a, b, c⟩ => ⟨g, cap, cur, a, Nat.le_trans hb2.size b, c⟩⟩)
    clear hrd hO
    go_wp2_with fail
    go_ret3
    exact ⟨A, k, by simp, by simpa [h2] using hO2.out, hbw⟩
def fewL (l : List ActL) (m : Nat) : Bool := (l.take m).all (fun x => decide (x.s.length ≤ 200)) && decide (l.length ≤ m)
theorem getD_mem {l : List ActL} {j : Nat} (h : j < l.length) : l.getD j (zeroL 0) ∈ l := by
 rw [List.getD_eq_getElem?_getD, List.getElem?_eq_getElem h]; exact List.getElem_mem h
theorem few_iff {l : List ActL} {m : Nat} : fewL l m = true ↔ l.length ≤ m ∧ ∀ x ∈ l, x.s.length ≤ 200 := by
 unfold fewL
 rw [Bool.and_eq_true, decide_eq_true_eq]
 constructor
 ·
  rintro ⟨h1, h2⟩
  rw [List.take_of_length_le h2, List.all_eq_true] at h1
  exact ⟨h2, fun x hx => of_decide_eq_true (h1 x hx)⟩
 ·
  rintro ⟨h1, h2⟩
  rw [List.take_of_length_le h1, List.all_eq_true]
  exact ⟨fun x hx => decide_eq_true (h2 x hx), h1⟩
set_option maxRecDepth 100000 in
set_option maxHeartbeats 8000000 in
theorem law_few (A : Option Addr) (c : Nat) (l : List ActL) (m : Nat) (w : World) (hrd : Reads w w.heap.size 13 A l.length (l.flatMap actC)) (hm : m ≤ 1000) :
  Calls Tryz.prog 13 #[.slice A l.length c, .int .i64 (m : Nat)] w fun e w' => e = .returned (.bool (fewL l m)) ∧ Below w.heap.size w w' := by
 obtain ⟨p, hp⟩ : ∃ p, fewL l m = p := ⟨_, rfl⟩
 rw [hp]
 replace hp := Lib.hid hp
 go_enter Tryz.func13, Tryz.ntmps13
 go_wp2_with fail
 go_loopw [5] (fun i wr => ∃ j : Nat, j ≤ m ∧ i = .int .i64 (j : Nat) ∧ (l.take j).all (fun x => decide (x.s.length ≤ 200)) = true ∧ Below w.heap.size w wr) (fun i _ => m - (intOf i).toNat)
 case atStart => exact ⟨0, by omega, rfl, by simp, Below.refl _ _⟩
 case round =>
  obtain ⟨j, hj, rfl, ha, hb⟩ := hrel
  by_cases h1 : j < l.length
  ·
   have h1i : (j : Int) < (l.length : Int) := by omega
   by_cases h2 : j < m
   ·
    have h2i : (j : Int) < (m : Int) := by omega
    have hj0 : (0 : Int) ≤ (j : Int) := by omega
    obtain ⟨ad, rfl, c0, c1, c2, c3, c4, c5, c6, c7, c8, c9, c10, c11, c12⟩ := act_rd (hrd.below hb) rfl h1
    have htk := take_actsnoc l h1
    have hmem := getD_mem h1
    generalize l.getD j (zeroL 0) = x at *
    by_cases h3 : x.s.length ≤ 200
    ·
     have h3i : ¬ (200 : Int) < (x.s.length : Int) := by omega
     have ha2 := Lib.hid (show (l.take (j + 1)).all (fun x => decide (x.s.length ≤ 200)) = true by
      rw [htk, List.all_append, ha, List.all_cons, List.all_nil, decide_eq_true h3]; rfl)
     clear ha htk hmem
     go_wp2_with fail
     go_roundw
     case rel => exact ⟨j + 1, by omega, by go_num, ha2.out, hb⟩
     case measure => simp [intOf]; omega
    ·
     have h3i : (200 : Int) < (x.s.length : Int) := by omega
     have hpf : p = false := by
      cases p
      · rfl
      · exact absurd ((few_iff.1 hp.out).2 _ hmem) h3
     subst hpf
     clear ha h3 htk hmem
     go_wp2_with fail
     go_ret
     exact ⟨rfl, hb⟩
   ·
    have h2i : ¬ (j : Int) < (m : Int) := by omega
    have h3i : ¬ (l.length : Int) ≤ (m : Int) := by omega
    have hpf : p = false := by
     cases p
     · rfl
     · exact absurd (few_iff.1 hp.out).1 (by omega)
    subst hpf
    clear ha
    go_wp2_with fail
    go_ret
    exact ⟨rfl, hb⟩
  ·
   have h1i : ¬ (j : Int) < (l.length : Int) := by omega
   have h3i : (l.length : Int) ≤ (m : Int) := by omega
   have hpf : p = true := by
    rw [← hp.out]
    unfold fewL
    rw [List.take_of_length_le (by omega)] at ha
    rw [List.take_of_length_le (by omega), ha]
    simp; omega
   subst hpf
   clear ha
   go_wp2_with fail
   go_ret
   exact ⟨rfl, hb⟩
set_option maxRecDepth 100000 in
set_option maxHeartbeats 8000000 in
theorem law_list (A : Option Addr) (c : Nat) (l : List ActL) (w : World) (hrd : Reads w w.heap.size 13 A l.length (l.flatMap actC)) (hl : l.length ≤ 1000) :
  Calls Tryz.prog 15 #[.slice A l.length c] w fun e w' => ∃ A' c', e = .returned (.slice A' l.length c') ∧ OwnF w' w.heap.size A' c' l ∧ Below w.heap.size w w' := by
 have OF := Lib.hid law_of
 go_enter Tryz.func15, Tryz.ntmps15
 go_wp2_with fail
 go_loopw [3, 4] (fun s i wr => ∃ (j : Nat) (B : Option Addr) (k : Nat), j ≤ l.length ∧ i = .int .i64 (j : Nat) ∧ s = .slice B j k ∧ OwnF wr w.heap.size B k (l.take j) ∧ Below w.heap.size w wr) (fun _ i _ => l.length - (intOf i).toNat)
 case atStart => exact ⟨0, none, 0, by omega, rfl, rfl, by rw [List.take_zero]; exact OwnA.nil _ _, Below.refl _ _⟩
 case round =>
  obtain ⟨j, B, k, hj, rfl, rfl, hO, hb⟩ := hrel
  have hsz := hb.size
  by_cases hlt : j < l.length
  ·
   have hlti : (j : Int) < (l.length : Int) := by omega
   have hj0 : (0 : Int) ≤ (j : Int) := by omega
   obtain ⟨ad, rfl, c0, c1, c2, c3, c4, c5, c6, c7, c8, c9, c10, c11, c12⟩ := act_rd (hrd.below hb) rfl hlt
   have htk := take_actsnoc l hlt
   have htl : (l.take j).length = j := by rw [List.length_take]; omega
   generalize l.getD j (zeroL 0) = x at *
   have OFx := Lib.hid (OF.out x)
   replace hO := Lib.hid hO
   replace htk := Lib.hid htk
   replace htl := Lib.hid htl
   go_wp2_with (first
    | (go_at_call 7; (with_reducible refine (OFx.out _).mono ?_); rintro e w3 ⟨rfl, hb3⟩; have hO3 := Lib.hid (OwnA.call hO.out hb3); have hb3w := below_chain hb3 hb; have hsz3 := hb3w.size)
    | (at_builtin; refine wpList_push_act rfl (.tmp 11) (.tmp 17) rfl w.heap.size B k (l.take j) x _ htl.out rfl hO3.out _ rfl rfl rfl (by omega) hsz3 ?_; intro A2 p2 w7 ho7 hp7))
   have hS7 := hp7.below (w0 := w) (B := w.heap.size) hb3w hsz3 (fun b hb => (hO3.out.block hb).1)
   rw [← htk.out] at ho7
   replace ho7 := Lib.hid ho7
   go_wp2_with fail
   go_roundw
   case rel => exact ⟨j + 1, A2, p2, by omega, by go_num, by simp, ho7.out, hS7⟩
   case measure => simp [intOf]; omega
  ·
   have hlti : ¬ (j : Int) < (l.length : Int) := by omega
   obtain rfl : j = l.length := by omega
   rw [List.take_length] at hO
   replace hO := Lib.hid hO
   go_wp2_with fail
   go_ret
   exact ⟨B, k, rfl, hO.out, hb⟩
set_option maxRecDepth 100000 in
set_option maxHeartbeats 8000000 in
theorem law_same (A B : Option Addr) (ca cb : Nat) (l : List ActL) (w : World) (hA : Reads w w.heap.size 13 A l.length (l.flatMap actC)) (hB : Reads w w.heap.size 13 B l.length (l.flatMap actC)) (hl : l.length ≤ 1000) :
  Calls Tryz.prog 19 #[.slice A l.length ca, .slice B l.length cb] w fun e w' => e = .returned (.bool true) ∧ Below w.heap.size w w' := by
 have OF := Lib.hid law_of
 have hG := act_guard
 have hlen : ((l.length : Int) != (l.length : Int)) = false := by simp
 replace hA := Lib.hid hA
 replace hB := Lib.hid hB
 go_enter Tryz.func19, Tryz.ntmps19
 go_wp2_with fail
 go_loopw [5] (fun i wr => ∃ j : Nat, j ≤ l.length ∧ i = .int .i64 (j : Nat) ∧ Below w.heap.size w wr) (fun i _ => l.length - (intOf i).toNat)
 case atStart => exact ⟨0, by omega, rfl, Below.refl _ _⟩
 case round =>
  obtain ⟨j, hj, rfl, hb⟩ := hrel
  by_cases hlt : j < l.length
  ·
   have hlti : (j : Int) < (l.length : Int) := by omega
   have hj0 : (0 : Int) ≤ (j : Int) := by omega
   have RA := hA.out.below hb
   have RB := hB.out.below hb
   obtain ⟨aa, rfl, -⟩ := act_rd RA rfl hlt
   obtain ⟨ab, rfl, -⟩ := act_rd RB rfl hlt
   have hC := Lib.hid fun W (h : Below wr.heap.size wr W) => (show W.cell? (aa.add (j * 13)) = some (.int .i64 (l.getD j (zeroL 0)).k) ∧ W.cell? ⟨(aa.add (j * 13)).block, (aa.add (j * 13)).off + 1, none⟩ = some (.int .i64 (l.getD j (zeroL 0)).at_) ∧ W.cell? ⟨(aa.add (j * 13)).block, (aa.add (j * 13)).off + 2, none⟩ = some (.int .i64 (l.getD j (zeroL 0)).id) ∧ W.cell? ⟨(aa.add (j * 13)).block, (aa.add (j * 13)).off + 3, none⟩ = some (.int .i64 (l.getD j (zeroL 0)).n) ∧ W.cell? ⟨(aa.add (j * 13)).block, (aa.add (j * 13)).off + 4, none⟩ = some (.string ⟨(l.getD j (zeroL 0)).s.toArray⟩) ∧ W.cell? ⟨(aa.add (j * 13)).block, (aa.add (j * 13)).off + 5, none⟩ = some (.int .u64 (((l.getD j (zeroL 0)).a : Nat) : Int)) ∧ W.cell? ⟨(aa.add (j * 13)).block, (aa.add (j * 13)).off + 6, none⟩ = some (.int .u64 (((l.getD j (zeroL 0)).b : Nat) : Int)) ∧ W.cell? ⟨(aa.add (j * 13)).block, (aa.add (j * 13)).off + 7, none⟩ = some (.bool (l.getD j (zeroL 0)).on) ∧ W.cell? ⟨(aa.add (j * 13)).block, (aa.add (j * 13)).off + 8, none⟩ = some (.bool (l.getD j (zeroL 0)).v6) ∧ W.cell? ⟨(aa.add (j * 13)).block, (aa.add (j * 13)).off + 9, none⟩ = some (.int .u64 (((l.getD j (zeroL 0)).hi : Nat) : Int)) ∧ W.cell? ⟨(aa.add (j * 13)).block, (aa.add (j * 13)).off + 10, none⟩ = some (.int .u64 (((l.getD j (zeroL 0)).lo : Nat) : Int)) ∧ W.cell? ⟨(aa.add (j * 13)).block, (aa.add (j * 13)).off + 11, none⟩ = some (.int .i64 (l.getD j (zeroL 0)).pk) ∧ W.cell? ⟨(aa.add (j * 13)).block, (aa.add (j * 13)).off + 12, none⟩ = some (.int .i64 (l.getD j (zeroL 0)).ps) ∧ W.cell? (ab.add (j * 13)) = some (.int .i64 (l.getD j (zeroL 0)).k) ∧ W.cell? ⟨(ab.add (j * 13)).block, (ab.add (j * 13)).off + 1, none⟩ = some (.int .i64 (l.getD j (zeroL 0)).at_) ∧ W.cell? ⟨(ab.add (j * 13)).block, (ab.add (j * 13)).off + 2, none⟩ = some (.int .i64 (l.getD j (zeroL 0)).id) ∧ W.cell? ⟨(ab.add (j * 13)).block, (ab.add (j * 13)).off + 3, none⟩ = some (.int .i64 (l.getD j (zeroL 0)).n) ∧ W.cell? ⟨(ab.add (j * 13)).block, (ab.add (j * 13)).off + 4, none⟩ = some (.string ⟨(l.getD j (zeroL 0)).s.toArray⟩) ∧ W.cell? ⟨(ab.add (j * 13)).block, (ab.add (j * 13)).off + 5, none⟩ = some (.int .u64 (((l.getD j (zeroL 0)).a : Nat) : Int)) ∧ W.cell? ⟨(ab.add (j * 13)).block, (ab.add (j * 13)).off + 6, none⟩ = some (.int .u64 (((l.getD j (zeroL 0)).b : Nat) : Int)) ∧ W.cell? ⟨(ab.add (j * 13)).block, (ab.add (j * 13)).off + 7, none⟩ = some (.bool (l.getD j (zeroL 0)).on) ∧ W.cell? ⟨(ab.add (j * 13)).block, (ab.add (j * 13)).off + 8, none⟩ = some (.bool (l.getD j (zeroL 0)).v6) ∧ W.cell? ⟨(ab.add (j * 13)).block, (ab.add (j * 13)).off + 9, none⟩ = some (.int .u64 (((l.getD j (zeroL 0)).hi : Nat) : Int)) ∧ W.cell? ⟨(ab.add (j * 13)).block, (ab.add (j * 13)).off + 10, none⟩ = some (.int .u64 (((l.getD j (zeroL 0)).lo : Nat) : Int)) ∧ W.cell? ⟨(ab.add (j * 13)).block, (ab.add (j * 13)).off + 11, none⟩ = some (.int .i64 (l.getD j (zeroL 0)).pk) ∧ W.cell? ⟨(ab.add (j * 13)).block, (ab.add (j * 13)).off + 12, none⟩ = some (.int .i64 (l.getD j (zeroL 0)).ps) from by
    obtain ⟨_, e1, c0, c1, c2, c3, c4, c5, c6, c7, c8, c9, c10, c11, c12⟩ := act_rd (hA.out.below (below_chain h hb)) rfl hlt
    obtain ⟨_, e2, d0, d1, d2, d3, d4, d5, d6, d7, d8, d9, d10, d11, d12⟩ := act_rd (hB.out.below (below_chain h hb)) rfl hlt
    cases e1; cases e2
    exact ⟨c0, c1, c2, c3, c4, c5, c6, c7, c8, c9, c10, c11, c12, d0, d1, d2, d3, d4, d5, d6, d7, d8, d9, d10, d11, d12⟩)
   generalize l.getD j (zeroL 0) = x at *
   have OFx := Lib.hid (OF.out x)
   have NQ : ∀ W, (binOp .neq 34 (.agg #[.int .i64 x.k, .int .i64 x.at_, .int .i64 x.id, .int .i64 x.n, .string ⟨x.s.toArray⟩, .int .u64 ((x.a : Nat) : Int), .int .u64 ((x.b : Nat) : Int), .bool x.on, .bool x.v6, .int .u64 ((x.hi : Nat) : Int), .int .u64 ((x.lo : Nat) : Int), .int .i64 x.pk, .int .i64 x.ps]) (.agg #[.int .i64 x.k, .int .i64 x.at_, .int .i64 x.id, .int .i64 x.n, .string ⟨x.s.toArray⟩, .int .u64 ((x.a : Nat) : Int), .int .u64 ((x.b : Nat) : Int), .bool x.on, .bool x.v6, .int .u64 ((x.hi : Nat) : Int), .int .u64 ((x.lo : Nat) : Int), .int .i64 x.pk, .int .i64 x.ps])).run Tryz.prog W = .ok (.bool false) W := fun W => by
    have h := act_neq x x W
    rw [show eqL x x = true from eqL_iff.2 rfl] at h
    exact h
   clear RA RB
   have hd := (Below.refl wr.heap.size wr).drew
   have hS0 := And.intro hd (hC.out _ hd)
   go_wp2_with fail
   refine wp_region_held_drew (S := fun W => Below wr.heap.size wr W ∧ W.cell? (aa.add (j * 13)) = some (.int .i64 x.k) ∧ W.cell? ⟨(aa.add (j * 13)).block, (aa.add (j * 13)).off + 1, none⟩ = some (.int .i64 x.at_) ∧ W.cell? ⟨(aa.add (j * 13)).block, (aa.add (j * 13)).off + 2, none⟩ = some (.int .i64 x.id) ∧ W.cell? ⟨(aa.add (j * 13)).block, (aa.add (j * 13)).off + 3, none⟩ = some (.int .i64 x.n) ∧ W.cell? ⟨(aa.add (j * 13)).block, (aa.add (j * 13)).off + 4, none⟩ = some (.string ⟨x.s.toArray⟩) ∧ W.cell? ⟨(aa.add (j * 13)).block, (aa.add (j * 13)).off + 5, none⟩ = some (.int .u64 ((x.a : Nat) : Int)) ∧ W.cell? ⟨(aa.add (j * 13)).block, (aa.add (j * 13)).off + 6, none⟩ = some (.int .u64 ((x.b : Nat) : Int)) ∧ W.cell? ⟨(aa.add (j * 13)).block, (aa.add (j * 13)).off + 7, none⟩ = some (.bool x.on) ∧ W.cell? ⟨(aa.add (j * 13)).block, (aa.add (j * 13)).off + 8, none⟩ = some (.bool x.v6) ∧ W.cell? ⟨(aa.add (j * 13)).block, (aa.add (j * 13)).off + 9, none⟩ = some (.int .u64 ((x.hi : Nat) : Int)) ∧ W.cell? ⟨(aa.add (j * 13)).block, (aa.add (j * 13)).off + 10, none⟩ = some (.int .u64 ((x.lo : Nat) : Int)) ∧ W.cell? ⟨(aa.add (j * 13)).block, (aa.add (j * 13)).off + 11, none⟩ = some (.int .i64 x.pk) ∧ W.cell? ⟨(aa.add (j * 13)).block, (aa.add (j * 13)).off + 12, none⟩ = some (.int .i64 x.ps) ∧ W.cell? (ab.add (j * 13)) = some (.int .i64 x.k) ∧ W.cell? ⟨(ab.add (j * 13)).block, (ab.add (j * 13)).off + 1, none⟩ = some (.int .i64 x.at_) ∧ W.cell? ⟨(ab.add (j * 13)).block, (ab.add (j * 13)).off + 2, none⟩ = some (.int .i64 x.id) ∧ W.cell? ⟨(ab.add (j * 13)).block, (ab.add (j * 13)).off + 3, none⟩ = some (.int .i64 x.n) ∧ W.cell? ⟨(ab.add (j * 13)).block, (ab.add (j * 13)).off + 4, none⟩ = some (.string ⟨x.s.toArray⟩) ∧ W.cell? ⟨(ab.add (j * 13)).block, (ab.add (j * 13)).off + 5, none⟩ = some (.int .u64 ((x.a : Nat) : Int)) ∧ W.cell? ⟨(ab.add (j * 13)).block, (ab.add (j * 13)).off + 6, none⟩ = some (.int .u64 ((x.b : Nat) : Int)) ∧ W.cell? ⟨(ab.add (j * 13)).block, (ab.add (j * 13)).off + 7, none⟩ = some (.bool x.on) ∧ W.cell? ⟨(ab.add (j * 13)).block, (ab.add (j * 13)).off + 8, none⟩ = some (.bool x.v6) ∧ W.cell? ⟨(ab.add (j * 13)).block, (ab.add (j * 13)).off + 9, none⟩ = some (.int .u64 ((x.hi : Nat) : Int)) ∧ W.cell? ⟨(ab.add (j * 13)).block, (ab.add (j * 13)).off + 10, none⟩ = some (.int .u64 ((x.lo : Nat) : Int)) ∧ W.cell? ⟨(ab.add (j * 13)).block, (ab.add (j * 13)).off + 11, none⟩ = some (.int .i64 x.pk) ∧ W.cell? ⟨(ab.add (j * 13)).block, (ab.add (j * 13)).off + 12, none⟩ = some (.int .i64 x.ps)) (by kernel_rfl) hS0 (fun hHeld => ?_)
   generalize wr.drew = wd at *
   refine' tk 0 rfl rfl ?_ ?_; rotate_left; · ((intro w hSw; (try dsimp only at hSw); go_simp) <;> with_reducible rfl); try go_frame
   refine' tk 1 rfl rfl ?_ ?_; rotate_left; · ((intro w hSw; (try dsimp only at hSw); go_simp) <;> with_reducible rfl); try go_frame
   refine' tk 2 rfl rfl ?_ ?_; rotate_left; · ((intro w hSw; (try dsimp only at hSw); go_simp) <;> with_reducible rfl); try go_frame
   refine' tk 3 rfl rfl ?_ ?_; rotate_left; · ((intro w hSw; (try dsimp only at hSw); go_simp) <;> with_reducible rfl); try go_frame
   refine' tk 4 rfl rfl ?_ ?_; rotate_left; · ((intro w hSw; (try dsimp only at hSw); go_simp) <;> with_reducible rfl); try go_frame
   refine' tk 5 rfl rfl ?_ ?_; rotate_left; · ((intro w hSw; (try dsimp only at hSw); go_simp) <;> with_reducible rfl); try go_frame
   refine' tk 6 rfl rfl ?_ ?_; rotate_left; · ((intro w hSw; (try dsimp only at hSw); go_simp) <;> with_reducible rfl); try go_frame
   refine' tk 7 rfl rfl ?_ ?_; rotate_left; · ((intro w hSw; (try dsimp only at hSw); go_simp) <;> with_reducible rfl); try go_frame
   refine wpAnyH_ready (rs := [8]) (by kernel_rfl) (by simp) ?_; refine consH rfl (fun K hK => ?_) AllReadyH.nil
   go_simp
   (go_at_call 7; (with_reducible refine (OFx.out _).mono ?_))
   rintro e w5 ⟨rfl, hb5⟩
   have hbS := below_chain hb5 hHeld.1
   refine hK.out _ _ ⟨hbS, hC.out _ hbS⟩ (fun hHeld1 => ?_)
   clear hK K
   try go_frame
   refine' tk 9 rfl rfl ?_ ?_; rotate_left; · ((intro w hSw; (try dsimp only at hSw); go_simp) <;> with_reducible rfl); try go_frame
   refine wpAnyH_done (by kernel_rfl) ?_ _
   go_wp2_with fail
   go_roundw
   case rel => exact ⟨j + 1, by omega, by go_num, below_chain hbS hb⟩
   case measure => simp [intOf]; omega
  ·
   have hlti : ¬ (j : Int) < (l.length : Int) := by omega
   go_wp2_with fail
   go_ret
   exact ⟨rfl, hb⟩
def awA : ActL := ⟨4, 0, 3, 0, [], 0, 0, true, false, 0, 0, 0, 0⟩
def awB : ActL := ⟨2, 0, 0, 5, [], 0, 0, false, false, 0, 1, 0, 0⟩
theorem aw_p1 : parseP [100, 114, 97, 105, 110, 32, 51, 32, 111, 110] = some awA := by kernel_rfl
theorem aw_p2 : parseP [100, 114, 97, 105, 110, 32, 48, 51, 32, 111, 110] = none := by kernel_rfl
theorem aw_p3 : parseP [116, 105, 99, 107, 32, 45, 48] = none := by kernel_rfl
theorem aw_r : rightL awB = true := by kernel_rfl
theorem aw_l : lineL awB = [97, 100, 100, 32, 53, 32, 48, 46, 48, 46, 48, 46, 49] := by
 have h : lineL awB = Lib.join [[97, 100, 100], Lib.itoa 5, adrTxt false 0 1] [32] := by kernel_rfl
 have h5 : Lib.itoa 5 = [53] := by
  rw [show (5 : Int) = ((5 : Nat) : Int) from rfl, itoa_nat, Lib.decDigits_one (by decide)]
  rfl
 have h2 : Lib.join [[97, 100, 100], [53], adrTxt false 0 1] [32] = [97, 100, 100, 32, 53, 32, 48, 46, 48, 46, 48, 46, 49] := by kernel_rfl
 rw [h, h5, h2]
set_option maxRecDepth 100000 in
set_option maxHeartbeats 16000000 in
theorem law_awake (w : World) (hw : Std w) : Calls Tryz.prog 5 #[] w fun e w' => e = .returned (.bool true) ∧ Below w.heap.size w w' := by
 have P1 := Lib.hid fun W (hb : Below w.heap.size w W) => (show Calls Tryz.prog 9 #[.string ⟨#[100, 114, 97, 105, 110, 32, 51, 32, 111, 110]⟩] W fun e w' => e = .returned (.tuple #[.agg #[.int .i64 4, .int .i64 0, .int .i64 3, .int .i64 0, .string ⟨#[]⟩, .int .u64 0, .int .u64 0, .bool true, .bool false, .int .u64 0, .int .u64 0, .int .i64 0, .int .i64 0], .bool true]) ∧ Below W.heap.size W w' from by
  have h := scr_parse [100, 114, 97, 105, 110, 32, 51, 32, 111, 110] W (hw.below hb) (by decide)
  rw [aw_p1] at h
  exact h)
 have P2 := Lib.hid fun W (hb : Below w.heap.size w W) => (show Calls Tryz.prog 9 #[.string ⟨#[100, 114, 97, 105, 110, 32, 48, 51, 32, 111, 110]⟩] W fun e w' => e = .returned (parseV none) ∧ Below W.heap.size W w' from by
  have h := scr_parse [100, 114, 97, 105, 110, 32, 48, 51, 32, 111, 110] W (hw.below hb) (by decide)
  rw [aw_p2] at h
  exact h)
 have P3 := Lib.hid fun W (hb : Below w.heap.size w W) => (show Calls Tryz.prog 9 #[.string ⟨#[116, 105, 99, 107, 32, 45, 48]⟩] W fun e w' => e = .returned (parseV none) ∧ Below W.heap.size W w' from by
  have h := scr_parse [116, 105, 99, 107, 32, 45, 48] W (hw.below hb) (by decide)
  rw [aw_p3] at h
  exact h)
 have L1 := Lib.hid fun W (hb : Below w.heap.size w W) => (show Calls Tryz.prog 6 #[.agg #[.int .i64 2, .int .i64 0, .int .i64 0, .int .i64 5, .string ⟨#[]⟩, .int .u64 0, .int .u64 0, .bool false, .bool false, .int .u64 0, .int .u64 1, .int .i64 0, .int .i64 0]] W fun e w' => e = .returned (.tuple #[.string ⟨#[97, 100, 100, 32, 53, 32, 48, 46, 48, 46, 48, 46, 49]⟩, .bool true]) ∧ Below W.heap.size W w' from by
  have h := scr_line awB W (hw.below hb) ⟨by decide, by decide, by decide, by decide⟩ (by decide)
  rw [aw_r, if_pos rfl, aw_l] at h
  exact h)
 have EQ : ∀ W, (binOp .eql 34 (.agg #[.int .i64 4, .int .i64 0, .int .i64 3, .int .i64 0, .string ⟨#[]⟩, .int .u64 0, .int .u64 0, .bool true, .bool false, .int .u64 0, .int .u64 0, .int .i64 0, .int .i64 0]) (.agg #[.int .i64 4, .int .i64 0, .int .i64 3, .int .i64 0, .string ⟨#[]⟩, .int .u64 0, .int .u64 0, .bool true, .bool false, .int .u64 0, .int .u64 0, .int .i64 0, .int .i64 0])).run Tryz.prog W = .ok (.bool true) W := fun W => by
  have h := act_eql awA awA W
  rw [show eqL awA awA = true from eqL_iff.2 rfl] at h
  exact h
 have hG := act_guard
 simp only [parseV] at P2 P3
 clear hw
 go_enter Tryz.func5, Tryz.ntmps5
 go_upto_region 2 with (go_at_call 9; (refine (P1.out _ (Below.refl _ _)).mono ?_); rintro e w2 ⟨rfl, hb2⟩)
 have K1 : Blk (w2.alloc (.cells #[.int .i64 4, .int .i64 0, .int .i64 3, .int .i64 0, .string ⟨#[]⟩, .int .u64 0, .int .u64 0, .bool true, .bool false, .int .u64 0, .int .u64 0, .int .i64 0, .int .i64 0] 34)) w2.heap.size 34 (actCs awA) := Blk.new w2 34 _
 have hb3 := below_alloc hb2 (.cells #[.int .i64 4, .int .i64 0, .int .i64 3, .int .i64 0, .string ⟨#[]⟩, .int .u64 0, .int .u64 0, .bool true, .bool false, .int .u64 0, .int .u64 0, .int .i64 0, .int .i64 0] 34)
 generalize w2.alloc (.cells #[.int .i64 4, .int .i64 0, .int .i64 3, .int .i64 0, .string ⟨#[]⟩, .int .u64 0, .int .u64 0, .bool true, .bool false, .int .u64 0, .int .u64 0, .int .i64 0, .int .i64 0] 34) = w3 at *
 go_upto_region 3 with (go_at_call 9; (refine (P2.out _ hb3).mono ?_); rintro e w4 ⟨rfl, hb4⟩)
 have K2 := (K1.call hb4).alloc (.cells #[.int .i64 0, .int .i64 0, .int .i64 0, .int .i64 0, .string ⟨#[]⟩, .int .u64 0, .int .u64 0, .bool false, .bool false, .int .u64 0, .int .u64 0, .int .i64 0, .int .i64 0] 34)
 have hb5 := below_alloc (below_chain hb4 hb3) (.cells #[.int .i64 0, .int .i64 0, .int .i64 0, .int .i64 0, .string ⟨#[]⟩, .int .u64 0, .int .u64 0, .bool false, .bool false, .int .u64 0, .int .u64 0, .int .i64 0, .int .i64 0] 34)
 generalize w4.alloc (.cells #[.int .i64 0, .int .i64 0, .int .i64 0, .int .i64 0, .string ⟨#[]⟩, .int .u64 0, .int .u64 0, .bool false, .bool false, .int .u64 0, .int .u64 0, .int .i64 0, .int .i64 0] 34) = w5 at *
 go_upto_region 4 with (go_at_call 9; (refine (P3.out _ hb5).mono ?_); rintro e w6 ⟨rfl, hb6⟩)
 have K3 := (K2.call hb6).alloc (.cells #[.int .i64 0, .int .i64 0, .int .i64 0, .int .i64 0, .string ⟨#[]⟩, .int .u64 0, .int .u64 0, .bool false, .bool false, .int .u64 0, .int .u64 0, .int .i64 0, .int .i64 0] 34)
 have hb7 := below_alloc (below_chain hb6 hb5) (.cells #[.int .i64 0, .int .i64 0, .int .i64 0, .int .i64 0, .string ⟨#[]⟩, .int .u64 0, .int .u64 0, .bool false, .bool false, .int .u64 0, .int .u64 0, .int .i64 0, .int .i64 0] 34)
 generalize w6.alloc (.cells #[.int .i64 0, .int .i64 0, .int .i64 0, .int .i64 0, .string ⟨#[]⟩, .int .u64 0, .int .u64 0, .bool false, .bool false, .int .u64 0, .int .u64 0, .int .i64 0, .int .i64 0] 34) = w7 at *
 go_upto_region 5 with (go_at_call 6; (refine (L1.out _ hb7).mono ?_); rintro e w8 ⟨rfl, hb8⟩)
 have K4 := K3.call hb8
 have d0 : w8.cell? ⟨w2.heap.size, 0, none⟩ = some (.int .i64 4) := K4.cell 0
 have d1 : w8.cell? ⟨w2.heap.size, 1, none⟩ = some (.int .i64 0) := K4.cell 1
 have d2 : w8.cell? ⟨w2.heap.size, 2, none⟩ = some (.int .i64 3) := K4.cell 2
 have d3 : w8.cell? ⟨w2.heap.size, 3, none⟩ = some (.int .i64 0) := K4.cell 3
 have d4 : w8.cell? ⟨w2.heap.size, 4, none⟩ = some (.string ⟨#[]⟩) := K4.cell 4
 have d5 : w8.cell? ⟨w2.heap.size, 5, none⟩ = some (.int .u64 0) := K4.cell 5
 have d6 : w8.cell? ⟨w2.heap.size, 6, none⟩ = some (.int .u64 0) := K4.cell 6
 have d7 : w8.cell? ⟨w2.heap.size, 7, none⟩ = some (.bool true) := K4.cell 7
 have d8 : w8.cell? ⟨w2.heap.size, 8, none⟩ = some (.bool false) := K4.cell 8
 have d9 : w8.cell? ⟨w2.heap.size, 9, none⟩ = some (.int .u64 0) := K4.cell 9
 have d10 : w8.cell? ⟨w2.heap.size, 10, none⟩ = some (.int .u64 0) := K4.cell 10
 have d11 : w8.cell? ⟨w2.heap.size, 11, none⟩ = some (.int .i64 0) := K4.cell 11
 have d12 : w8.cell? ⟨w2.heap.size, 12, none⟩ = some (.int .i64 0) := K4.cell 12
 have hbF := below_chain hb8 hb7
 clear P1 P2 P3 L1 K1 K2 K3 K4 hb2 hb3 hb4 hb5 hb6 hb7 hb8
 go_wp2_with fail
 go_ret
 exact ⟨rfl, hbF⟩
theorem reads_up {w : World} {B B' m n : Nat} {A : Option Addr} {xs : List Value} (h : Reads w B m A n xs) (hb : B ≤ B') : Reads w B' m A n xs :=
 ⟨h.1, fun h0 => by obtain ⟨ad, e, h1, h2⟩ := h.2 h0; exact ⟨ad, e, Nat.lt_of_lt_of_le h1 hb, h2⟩⟩
def actIn (x : ActL) : Prop := inL x ∧ x.s.length ≤ 9223372036854775807
def backL (l : List ActL) (more : List UInt8) : List UInt8 := 35 :: (more ++ 10 :: 10 :: (linesL l ++ [35, 32, 101, 110, 100]))
theorem rdA_len (t : List UInt8) : (rdA t).length ≤ 200 := by
 unfold rdA
 by_cases h1 : (rdR t).1 ≠ 0
 · rw [if_pos h1]; simp
 ·
  rw [if_neg h1]
  by_cases h2 : 200 < (rdR t).2.length
  · rw [if_pos h2]; simp
  · rw [if_neg h2]; omega
set_option maxRecDepth 100000 in
set_option maxHeartbeats 16000000 in
theorem texts_no (A : Option Addr) (c : Nat) (l : List ActL) (t : List UInt8) (w : World) (hw : Std w) (hrd : Reads w w.heap.size 13 A l.length (l.flatMap actC)) (hf : fewL l 210 = false ∨ 800 < t.length) (ht : t.length ≤ 9223372036854775807) :
  Calls Tryz.prog 4 #[.slice A l.length c, .string ⟨t.toArray⟩] w fun e w' => e = .returned (.bool true) ∧ Below w.heap.size w w' := by
 have FW := law_few A c l 210 w hrd (by omega)
 have AW := Lib.hid fun W (hb : Below w.heap.size w W) => law_awake W (hw.below hb)
 cases hfw : fewL l 210 with
 | false =>
  rw [hfw] at FW
  replace FW := Lib.hid (show Calls Tryz.prog 13 #[.slice A l.length c, .int .i64 210] w _ from FW)
  clear hfw hf
  go_enter Tryz.func4, Tryz.ntmps4
  go_wp2_with (first
   | (go_at_call 13; (refine FW.out.mono ?_); rintro e w2 ⟨rfl, hb2⟩)
   | (go_at_call 5; (refine (AW.out _ hb2).mono ?_); rintro e w3 ⟨rfl, hb3⟩))
  go_ret
  exact ⟨rfl, below_chain hb3 hb2⟩
 | true =>
  rw [hfw] at FW hf
  have h40 : 800 < t.length := by rcases hf with h | h; cases h; exact h
  have h40i : (800 : Int) < (t.length : Int) := by omega
  replace FW := Lib.hid (show Calls Tryz.prog 13 #[.slice A l.length c, .int .i64 210] w _ from FW)
  clear hfw hf
  go_enter Tryz.func4, Tryz.ntmps4
  go_wp2_with (first
   | (go_at_call 13; (refine FW.out.mono ?_); rintro e w2 ⟨rfl, hb2⟩)
   | (go_at_call 5; (refine (AW.out _ hb2).mono ?_); rintro e w3 ⟨rfl, hb3⟩))
  go_ret
  exact ⟨rfl, below_chain hb3 hb2⟩
set_option maxRecDepth 100000 in
set_option maxHeartbeats 32000000 in
theorem texts_yes (A : Option Addr) (c : Nat) (l : List ActL) (t : List UInt8) (w : World) (hw : Std w) (hrd : Reads w w.heap.size 13 A l.length (l.flatMap actC)) (hin : ∀ x ∈ l, inL x) (hf : fewL l 210 = true) (h800 : t.length ≤ 800) :
  Calls Tryz.prog 4 #[.slice A l.length c, .string ⟨t.toArray⟩] w fun e w' => e = .returned (.bool true) ∧ Below w.heap.size w w' := by
 have FW := law_few A c l 210 w hrd (by omega)
 rw [hf] at FW
 replace FW := Lib.hid (show Calls Tryz.prog 13 #[.slice A l.length c, .int .i64 210] w _ from FW)
 obtain ⟨hl, hs200⟩ := few_iff.1 hf
 have hin2 : ∀ x ∈ l, inL x ∧ x.s.length ≤ 10000 := fun x hx => ⟨hin x hx, Nat.le_trans (hs200 x hx) (show 200 ≤ 10000 by omega)⟩
 have AW := Lib.hid fun W (hb : Below w.heap.size w W) => law_awake W (hw.below hb)
 have LS := Lib.hid fun W (hb : Below w.heap.size w W) => law_list A c l W (reads_up (hrd.below hb) hb.size) (by omega)
 have g800 : ¬ (800 : Int) < (t.length : Int) := by omega
 have hpx : ∀ x ∈ parts 10 t, x.length ≤ 10000 := fun x hx => by have := (parts_len 10 t).2 x hx; omega
 obtain ⟨p, hp⟩ : ∃ p, textOk l = p := ⟨_, rfl⟩
 obtain ⟨S, hS⟩ : ∃ S, (if p then linesL l else []) = S := ⟨_, rfl⟩
 have TX := Lib.hid fun W (B : Option Addr) (k : Nat) (hb : Below w.heap.size w W) (hr : Reads W W.heap.size 13 B l.length (l.flatMap actC)) => (show Calls Tryz.prog 14 #[.slice B l.length k] W fun e w' => e = .returned (.tuple #[.string ⟨S.toArray⟩, .bool p]) ∧ Below W.heap.size W w' from by
  have h := scr_txt B k l W (hw.below hb) hr hin2 (by omega)
  rw [hp, hS] at h
  exact h)
 have RT := Lib.hid fun W (hb : Below w.heap.size w W) => (show Calls Tryz.prog 16 #[.slice A l.length c] W fun e w' => e = .returned (.tuple #[.string ⟨S.toArray⟩, .bool p]) ∧ Below W.heap.size W w' from by
  have h := rs_text A c l W (reads_up (hrd.below hb) hb.size) hin2 (by omega)
  rw [hp, hS] at h
  exact h)
 have RD := fun W (hb : Below w.heap.size w W) => scr_read t W (hw.below hb) (by omega) hpx
 have RR := fun W => rs_read t W (by omega)
 have hRl := rdA_len t
 generalize rdA t = R at RD RR hRl
 generalize (rdN t : Int) = N at RD RR
 generalize rdE t = E at RD RR
 have SM := Lib.hid fun W (A2 B2 : Option Addr) (c2 d2 : Nat) (hA : Reads W W.heap.size 13 A2 R.length (R.flatMap actC)) (hB : Reads W W.heap.size 13 B2 R.length (R.flatMap actC)) => law_same A2 B2 c2 d2 R W hA hB (by omega)
 replace RD := Lib.hid RD
 replace RR := Lib.hid RR
 have e1 : (S == S) = true := by simp
 have e2 : (p == p) = true := by simp
 have e3 : (N == N) = true := by simp
 have e4 : (E == E) = true := by simp
 replace hp := Lib.hid hp
 replace hS := Lib.hid hS
 replace hRl := Lib.hid hRl
 clear hf hin hin2 hs200 hpx hrd
 go_enter Tryz.func4, Tryz.ntmps4
 go_wp2_with (first
  | (go_at_call 13; (refine FW.out.mono ?_); rintro e w2 ⟨rfl, hb2⟩)
  | (go_at_call 15; (refine (LS.out _ hb2).mono ?_); rintro e w3 ⟨B, k, rfl, hO3, hb3⟩; have hb3w := below_chain hb3 hb2; replace hO3 := Lib.hid hO3)
  | (go_at_call 14; (refine (TX.out _ B k hb3w hO3.out.reads).mono ?_); rintro e w4 ⟨rfl, hb4⟩; have hb4w := below_chain hb4 hb3w)
  | (go_at_call 16; (refine (RT.out _ hb4w).mono ?_); rintro e w5 ⟨rfl, hb5⟩; have hb5w := below_chain hb5 hb4w)
  | (go_at_call 17; (refine (RD.out _ hb5w).mono ?_); rintro e w6 ⟨B6, k6, rfl, hO6, hb6⟩; have hb6w := below_chain hb6 hb5w; replace hO6 := Lib.hid hO6)
  | (go_at_call 18; (refine (RR.out _).mono ?_); rintro e w7 ⟨B7, k7, rfl, hO7, hb7⟩; have hb7w := below_chain hb7 hb6w; have hO67 := Lib.hid (OwnA.call hO6.out hb7); replace hO7 := Lib.hid hO7)
  | (go_at_call 19; (refine (SM.out _ B6 B7 k6 k7 hO67.out.reads hO7.out.reads).mono ?_); rintro e w8 ⟨rfl, hb8⟩; have hb8w := below_chain hb8 hb7w)
  | (go_at_call 5; (refine (AW.out _ hb8w).mono ?_); rintro e w9 ⟨rfl, hb9⟩))
 go_ret
 exact ⟨rfl, below_chain hb9 hb8w⟩
theorem scriptTexts_calls (A : Option Addr) (c : Nat) (l : List ActL) (t : List UInt8) (w : World) (hw : Std w) (hrd : Reads w w.heap.size 13 A l.length (l.flatMap actC)) (hin : ∀ x ∈ l, actIn x) (ht : t.length ≤ 9223372036854775807) :
  Calls Tryz.prog 4 #[.slice A l.length c, .string ⟨t.toArray⟩] w fun e w' => e = .returned (.bool true) ∧ Below w.heap.size w w' := by
 cases hf : fewL l 210 with
 | false => exact texts_no A c l t w hw hrd (Or.inl hf) ht
 | true =>
  by_cases h8 : 800 < t.length
  · exact texts_no A c l t w hw hrd (Or.inr h8) ht
  · exact texts_yes A c l t w hw hrd (fun x hx => (hin x hx).1) hf (by omega)
end Go.Proofs.YtodbgjnccngljaaGreatDoor
