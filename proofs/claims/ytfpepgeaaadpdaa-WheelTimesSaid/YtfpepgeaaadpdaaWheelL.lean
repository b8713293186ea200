/- wheel: Go at a time that may be. -/
import Derived.Test.YtfpepgeaaadpdaaWheelK
namespace Go.Proofs.Ytfpepgeaaadpdaa
open Go Go.RowKit Go.Deep Go.Maps Go.ChangeMaps

theorem wpList_push_ints {W : World} {ops : Array Oper} {rest : List Oper} {o : Oper} {a : Act} {Q : Exit → Act → World → Prop} (hgd : o.guard = none) (s x : Operand)
    (ho : o.op = .call { callee := .builtin .append, args := #[s, x], argTypes := #[34, 34] })
    (base : Nat) (A : Option Addr) (c : Nat) (l : List Int) (hs : a.eval s = .slice A l.length c) (hown : OwnI W base A c l) (A2 : Option Addr) (c2 : Nat) (l2 : List Int)
    (hx : a.eval x = .slice A2 l2.length c2) (hr : Reads W W.heap.size 1 A2 l2.length (l2.map (.int .i64))) (hl : l.length + l2.length ≤ 1000000) (hbase : base ≤ W.heap.size)
    (h : ∀ A' c' w', OwnI w' base A' c' (l ++ l2) → Pushed W w' A A' → wpList Try.prog ops Q rest (a.put o.dst (.slice A' (l ++ l2).length c')) w') : wpList Try.prog ops Q (o :: rest) a W := by
  obtain ⟨i0, hi0, hz0, hz1, hz2⟩ := info_parts info_int
  refine wpList_append_sl _ hgd s x 34 ho base 3 i0 _ 1 8 Try.underlying34 hi0 hz0 hz1 hz2 rfl (by decide) (.slice A l.length c) l.length (l.flatMap icell) hs hown W.heap.size A2 l2.length c2 (l2.map (.int .i64)) hx hr (fun u hu => by
    obtain ⟨y, -, rfl⟩ := List.mem_map.1 hu
    rfl) (by unfold maxLen; omega) (by omega) hbase ?_
  intro A' c' w' hown' hg' hat
  have hA : ∀ k, (Value.slice A l.length c).ownBlock = some k ↔ InB A k := hown.own_block
  have hO : OwnI w' base A' c' (l ++ l2) := by
    unfold OwnI OwnA
    rw [List.length_append, List.flatMap_append, icell_map l2]
    exact hown'
  rw [← List.length_append]
  refine h A' c' w' hO ⟨?_, ?_⟩
  · exact (Chg.refl _ W).grown hg' (fun k hk _ => (hA k).1 hk)
  · intro b hb
    have e1 : (Value.slice A' (l.length + l2.length) c').ownBlock = some b := by
      have := (hO.own_block b).2 hb
      simpa [Value.ownBlock] using this
    rcases hat with h2 | h2
    · rw [h2] at e1
      exact .inl ((hA b).1 e1)
    · rw [h2] at e1
      simp at e1
      exact .inr (by omega)
theorem outL_len {G now : Int} {M : LM} {R : Nat → List Int} {T : Nat → Int} (inv : RowInv M R T) (nw : Int) (m : Nat) (hm : m ≤ 64) : (outL G now M R nw m).length ≤ 4096 := by
  refine nodup_len 4096 _ (out_nodup inv nw m hm) fun x hx => ?_
  obtain ⟨i, hi, h1, -⟩ := mem_outL.1 hx
  have h2 := ((inv.mem _ (by omega) x).1 h1).1
  have h3 := inv.idr _ (lmGet_mem h2)
  omega
section
variable {w : World} {base g bm : Nat} {G now : Int} {M : LM} {R : Nat → List Int} {A : Nat → Option Addr} {C : Nat → Nat} {T : Nat → Int} {Z : Array Value}
theorem WhAt.setNow (h : WhAt w base g bm G now M R A C T Z) (nw : Int) : WhAt (w.setCell ⟨g, 1, none⟩ (.int .i64 nw)) base g bm G nw M R A C T (Z.setIfInBounds 1 (.int .i64 nw)) := by
  have hc : Chg (· = g) w (w.setCell ⟨g, 1, none⟩ (.int .i64 nw)) := Chg.setCell (F := (· = g)) (p := ⟨g, 1, none⟩) (Chg.refl _ _) (fun _ => rfl) _
  have hz := h.size
  refine ⟨h.blk.set_ 1 _, by simp [hz], ?_, ?_, ?_, fun k hk => ?_, fun k hk => (h.own k hk).chg hc (fun b hb e => (h.row_ne hk hb).1 e), h.apart, fun i hi => ?_, h.map.chg hc (fun e => h.gm e.symm), h.gb, h.mb⟩
  · rw [Array.getElem?_setIfInBounds_ne (by omega)]
    exact h.z0
  · rw [Array.getElem?_setIfInBounds_self_of_lt (by omega)]
  · rw [Array.getElem?_setIfInBounds_ne (by omega)]
    exact h.z2
  · rw [Array.getElem?_setIfInBounds_ne (by omega)]
    exact h.row k hk
  · rw [Array.getElem?_setIfInBounds_ne (by omega)]
    exact h.at_ i hi
set_option maxRecDepth 100000 in
set_option maxHeartbeats 4000000 in
theorem wheel_go (h : WhAt w base g bm G now M R A C T Z) (inv : RowInv M R T) (hw : wInv G now M T) (hG : 1 ≤ G ∧ G ≤ 1024) (hnow : 0 ≤ now) (nw : Int) (hn : now ≤ nw ∧ nw ≤ 1099511627776) (_hbase : base ≤ w.heap.size) :
    Calls Try.prog 14 #[.pointer (some ⟨g, 0, none⟩), .int .i64 nw] w fun e w' => ∃ (P : Option Addr) (c : Nat) (S : List Int) (R' : Nat → List Int) (T' : Nat → Int) (Z' : Array Value), e = .returned (.tuple #[.slice P S.length c, .int .i64 0]) ∧ S.Perm (outL G now M R nw (cntI G now nw)) ∧ S.Pairwise (leT G M) ∧
      Reads w' w'.heap.size 1 P S.length (S.map (.int .i64)) ∧ (∀ b, InB P b → w.heap.size ≤ b) ∧ WhAt w' base g bm G nw (delAll M S) R' A C T' Z' ∧ RowInv (delAll M S) R' T' ∧ wInv G nw (delAll M S) T' ∧ Chg (whF g bm A) w w' := by
  obtain ⟨w0, hw0⟩ : ∃ w0, w0 = w.alloc (.cells #[.pointer (some ⟨g, 0, none⟩)] 24) := ⟨_, rfl⟩
  have hb0 : Below w.heap.size w w0 := hw0 ▸ below_alloc (Below.refl _ _) _
  have h0 := h.call hb0
  have hv0 : w0.cell? ⟨w.heap.size, 0, none⟩ = some (.pointer (some ⟨g, 0, none⟩)) := hw0 ▸ (Blk.new w 24 #[.pointer (some ⟨g, 0, none⟩)]).cell 0
  have hz0 : w0.heap.size = w.heap.size + 1 := by rw [hw0]; exact World.size_alloc _ _
  have GV := Lib.hid (wheel_given h0 (by omega))
  have c0 := h0.cell h0.z0
  have c1 := h0.cell h0.z1
  have hlt := h.blk.lt
  have hd1 : decide (nw < now) = false := by simp; omega
  have hd2 : decide (1099511627776 < nw) = false := by simp; omega
  have hzG : (G == 0) = false := by rw [beq_eq_false_iff_ne]; omega
  have hf0 : 0 ≤ now / G := Int.ediv_nonneg hnow (by omega)
  have hf1 : now / G ≤ nw / G := Int.ediv_le_ediv (by omega) hn.1
  have hf2 : nw / G ≤ nw := Int.ediv_le_self _ (by omega)
  have ho_nd := out_nodup (G := G) (now := now) inv nw (cntI G now nw) (by unfold cntI; omega)
  have ho_mem := out_mem inv hw hG.1 hnow hn.1
  obtain ⟨cn, hcn⟩ : ∃ cn, cntI G now nw = cn := ⟨_, rfl⟩
  have hcn2 : min (nw / G) (now / G + 63) - now / G + 1 = (cn : Int) := by rw [← hcn]; unfold cntI; omega
  rw [hcn] at ho_nd ho_mem ⊢
  have hOut : ∀ j, outL G now M R nw (j + 1) = outL G now M R nw j ++ comeL G M (R ((now / G + j) % 64).toNat) nw := fun _ => rfl
  have hOl := fun j (hj : j ≤ 64) => outL_len (G := G) (now := now) inv nw j hj
  obtain ⟨O, hO⟩ : ∃ O, outL G now M R nw = O := ⟨_, rfl⟩
  have hO0 : O 0 = [] := by rw [← hO]; rfl
  rw [hO] at hOut hOl ho_nd ho_mem ⊢
  have hgf : 1 ≤ G := hG.1
  replace hO := Lib.hid hO
  replace hOut := Lib.hid hOut
  replace hcn := Lib.hid hcn
  replace ho_nd := Lib.hid ho_nd
  replace ho_mem := Lib.hid ho_mem
  replace inv := Lib.hid inv
  replace hw := Lib.hid hw
  replace h := Lib.hid h
  replace h0 := Lib.hid h0
  generalize hgv : w.heap.size = gv at *
  go_enter Try.func14, Try.ntmps14
  go_wp2_with fail
  rw [← hw0]
  clear hw0
  refine GV.out.mono ?_
  rintro e w1 ⟨rfl, rfl⟩
  clear GV
  go_wp2_with fail
  go_quiet (fail)
  have hb1 : Below gv w (w0.drewN nq) := below_drewN hb0 nq
  have hv1 : (w0.drewN nq).cell? ⟨gv, 0, none⟩ = some (.pointer (some ⟨g, 0, none⟩)) := hv0
  have h1 := Lib.hid (h0.out.drewN nq)
  have hz1 : (w0.drewN nq).heap.size = gv + 1 := hz0
  clear hb0 hv0 c0 c1 h0 hz0
  generalize w0.drewN nq = w1 at *
  have hcn64 : cn ≤ 64 := by omega
  have hCM := fun (W : World) (hb : Below w1.heap.size w1 W) (k : Nat) (hk : k < 64) => wheel_come (h1.out.call hb) inv.out hG k hk nw
  replace hG := Lib.hid hG
  replace hCM := Lib.hid hCM
  have hcl : ∀ k : Nat, k < 64 → (comeL G M (R k) nw).length ≤ 4096 := fun k hk => Nat.le_trans (List.length_filter_le _ _) (inv.out.rlen hk)
  generalize now / G = f at *
  generalize nw / G = l at *
  go_wp2_with fail
  go_loopw [8, 9] (fun ov ix wr => ∃ (j : Nat) (P : Option Addr) (p : Nat), j ≤ cn ∧ ix = .int .i64 (f + j) ∧ ov = .slice P (O j).length p ∧ OwnI wr (gv + 1) P p (O j) ∧ Below w1.heap.size w1 wr) (fun _ ix _ => cn - (intOf ix - f).toNat)
  case atStart =>
    refine ⟨0, none, 0, by omega, ?_, by rw [hO0]; rfl, by rw [hO0]; exact OwnA.nil _ _, Below.refl _ _⟩
    simp
  case round =>
    obtain ⟨j, P, p, hj, rfl, rfl, hOo, hb⟩ := hrel
    have hzB := hb.size
    by_cases hlt2 : j < cn
    · have hcmp : decide (f + (j : Int) ≤ min l (f + 63)) = true := by simp; omega
      have hw64 : ∀ x : Int, -1 ≤ x → x ≤ 1099511627776 + 200 → IntKind.i64.wrap x = x := fun x h1 h2 => by
        simp [IntKind.wrap, IntKind.bits, IntKind.signed]
        omega
      obtain ⟨k, hk, hk64⟩ : ∃ k : Nat, (f + (j : Int)) % 64 = (k : Int) ∧ k < 64 := ⟨((f + j) % 64).toNat, by omega, by omega⟩
      have CM := hCM.out wr hb k hk64
      have hO1 := hOut.out j
      rw [hk, Int.toNat_natCast] at hO1
      have hol := hOl j (by omega)
      have hcl1 := hcl k hk64
      generalize comeL G M (R k) nw = cl at *
      replace hO1 := Lib.hid hO1
      replace CM := Lib.hid CM
      have hv2 := (hb.cell (p := ⟨gv, 0, none⟩) (by show gv < w1.heap.size; omega)).trans hv1
      go_wp2_with fail
      refine CM.out.mono ?_
      rintro e w3 ⟨A3, c3, rfl, ho3, hb3⟩
      have hb4 := below_chain hb3 hb
      have hO3 := hOo.call hb3
      have hz3 := hb3.size
      have hr3 := ho3.ints
      clear hOo CM ho3 hb3 hv2
      go_wp2_with (first | (at_builtin; (refine wpList_push_ints rfl (.tmp 52) (.tmp 57) rfl (gv + 1) P p (O j) rfl hO3 A3 c3 cl rfl hr3 (by omega) (by omega) ?_; intro P4 p4 w4 ho4 hp4)))
      have hb5 := hp4.below hb4 (by omega) (fun b hb => by rw [hz1]; exact (hO3.block hb).1)
      rw [← hO1.out] at ho4
      have hln : (O j).length + cl.length = (O (j + 1)).length := by rw [hO1.out, List.length_append]
      go_roundw
      case rel => exact ⟨j + 1, P4, p4, by omega, congrArg (Value.int .i64) (by omega), by rw [hln], ho4, hb5⟩
      case measure => simp [intOf]; omega
    · obtain rfl : j = cn := by omega
      have hWr := h1.out.call hb
      have hv2 := (hb.cell (p := ⟨gv, 0, none⟩) (by show gv < w1.heap.size; omega)).trans hv1
      have hPb : ∀ b, InB P b → gv + 1 ≤ b := fun b hb => (hOo.block hb).1
      have hwF : ∀ b, whF g bm A b → b < gv := fun b hb => by have := (h.out.whF_lt hb).2; omega
      have SO := wsort_any hWr inv.out hG.out hv2 (fun x hx => ((ho_mem.out x).1 hx).1) hOo (fun b hb hF => by have := hPb b hb; have := hwF b hF; omega) (fun hb => by have := hPb _ hb; omega) (by have := hOl j (by omega); omega)
      have hbw : Below gv w wr := hb1.trans (hb.mono (by omega))
      replace SO := Lib.hid SO
      replace hWr := Lib.hid hWr
      clear hv1 h1 hCM hOut hb hb1
      go_wp2_with fail
      refine SO.out.mono ?_
      rintro e w4 ⟨rfl, S, hS1, hS2, hS3, hS4⟩
      have h4 := hWr.out.chg hS4 (fun b hb hF => by have := hPb b hb; have := hwF b hF; omega)
      have hv4 := (cell_chg hS4 (block_lt_of_cell hv2) (fun e => by have : gv + 1 ≤ gv := hPb _ e; omega)).trans hv2
      have hSl := hS1.length_eq
      have hSb : S.length ≤ 4096 := by rw [hSl]; exact hOl j (by omega)
      have hSm : ∀ x, x ∈ S ↔ lmHas M x = true ∧ turnI G (lmGet M x) * G ≤ nw := fun x => hS1.mem_iff.trans (ho_mem.out x)
      have hbw4 : Below gv w w4 := below_chg hbw hS4 (fun b hb e => by have := hPb b e; omega) (by omega)
      have hSn : S.Nodup := hS1.nodup_iff.2 ho_nd.out
      clear SO hv2 hbw
      replace hS1 := Lib.hid hS1
      replace hS2 := Lib.hid hS2
      replace hSm := Lib.hid hSm
      replace hSn := Lib.hid hSn
      replace h4 := Lib.hid h4
      go_wp2_with fail
      go_loopw [64] (fun ix wx => ∃ (k : Nat) (R2 : Nat → List Int) (T2 : Nat → Int) (Z2 : Array Value), k ≤ S.length ∧ ix = .int .i64 (k : Nat) ∧ WhAt wx base g bm G now (delAll M (S.take k)) R2 A C T2 Z2 ∧ RowInv (delAll M (S.take k)) R2 T2 ∧ (∀ n : Nat, (n : Int) ∉ S.take k → T2 n = T n) ∧ Chg (whF g bm A) w4 wx) (fun ix _ => S.length - (intOf ix).toNat)
      case atStart => exact ⟨0, R, T, Z, by omega, rfl, h4.out, inv.out, fun _ _ => rfl, Chg.refl _ _⟩
      case round =>
        obtain ⟨k, R2, T2, Z2, hk, rfl, h5, inv5, hT5, hc5⟩ := hrel
        have hv5 := (cell_chg hc5 (block_lt_of_cell hv4) (fun e => by have : gv < gv := hwF _ e; omega)).trans hv4
        by_cases hk2 : k < S.length
        · have hki : (k : Int) < ((O j).length : Int) := by omega
          obtain ⟨ad, hA, hbl, cx⟩ := (hS3.chg hc5 (fun ad hA hF => by have := hPb _ ⟨ad, hA, rfl⟩; have := hwF _ hF; omega)).int_at hk2
          subst hA
          have hxm : S[k] ∈ S := List.getElem_mem hk2
          have hx1 := ((hSm.out _).1 hxm).1
          have hx2 := inv.out.idr _ (lmGet_mem hx1)
          have hdt := delAll_take (M := M) hk2
          have htk := List.take_succ_eq_append_getElem hk2
          rw [show S.getD k 0 = S[k] by simp [hk2]] at cx
          obtain ⟨n, hn⟩ : ∃ n : Nat, S[k] = (n : Int) := ⟨S[k].toNat, by omega⟩
          rw [hn] at cx hdt htk hx2
          have UN := wheel_unset_any h5 inv5 (by omega) n (by omega)
          rw [← hdt] at UN
          replace UN := Lib.hid UN
          replace hdt := Lib.hid hdt
          replace htk := Lib.hid htk
          replace h5 := Lib.hid h5
          replace inv5 := Lib.hid inv5
          replace hT5 := Lib.hid hT5
          clear hx1 hxm hn
          go_wp2_with fail
          refine UN.out.mono ?_
          rintro e w6 ⟨rfl, R6, T6, Z6, h6, inv6, ht6, -, hc6⟩
          go_wp2_with fail
          go_roundw
          case rel =>
            refine ⟨k + 1, R6, T6, Z6, by omega, by go_num, h6, inv6, fun m hm => ?_, hc5.trans hc6 (fun _ _ h => h)⟩
            rw [htk.out, List.mem_append, List.mem_singleton] at hm
            rw [ht6 m (fun e => hm (.inr (by rw [e]))), hT5.out m (fun e => hm (.inl e))]
          case measure => simp [intOf]; omega
        · obtain rfl : k = S.length := by omega
          have hki : ¬ (S.length : Int) < ((O j).length : Int) := by omega
          rw [List.take_length] at h5 inv5 hT5
          have hR5 := hS3.chg hc5 (fun ad hA hF => by have := hPb _ ⟨ad, hA, rfl⟩; have := hwF _ hF; omega)
          have cg := h5.cell h5.z1
          have fg := h5.blk.frozen 1
          have hgm := h5.blk.lt
          replace hT5 := Lib.hid hT5
          replace h5 := Lib.hid h5
          replace inv5 := Lib.hid inv5
          go_wp2_with fail
          have hcs : Chg (· = g) wr (wr.setCell ⟨g, 1, none⟩ (.int .i64 nw)) := Chg.setCell (F := (· = g)) (p := ⟨g, 1, none⟩) (Chg.refl _ _) (fun _ => rfl) _
          have hwd : wInv G now (delAll M S) T2 := by
            intro id hh
            rw [lmHas_delAll] at hh
            have := inv.out.idr _ (lmGet_mem hh.1)
            obtain ⟨e, e1, e2, e3, e4⟩ := hw.out id hh.1
            rw [lmGet_delAll S M hh.2, hT5.out id.toNat (by rw [show ((id.toNat : Nat) : Int) = id by omega]; exact hh.2)]
            exact ⟨e, e1, e2, e3, e4⟩
          have hwg := hwd.go hgf hn.1 (fun id hh => by
            rw [lmHas_delAll] at hh
            rw [lmGet_delAll S M hh.2]
            exact fun hc => hh.2 ((hSm.out id).2 ⟨hh.1, hc⟩))
          have hbx : Chg (whF g bm A) w wr := (Chg.of_below (hgv ▸ hbw4)).trans hc5 (fun _ _ h => h)
          have hby : Chg (whF g bm A) w (wr.setCell ⟨g, 1, none⟩ (.int .i64 nw)) := Chg.setCell hbx (fun _ => .inl rfl) _
          have hRz := hR5.chg hcs (fun ad hA e => by have := hPb _ ⟨ad, hA, rfl⟩; have : ad.block = g := e; omega)
          have hNow := h5.out.setNow nw
          generalize wr.setCell ⟨g, 1, none⟩ (.int .i64 nw) = wz at *
          have hPb2 : ∀ b, InB P b → gv ≤ b := fun b hb => by have := hPb b hb; omega
          replace hPb2 := Lib.hid hPb2
          replace hRz := Lib.hid hRz
          replace hNow := Lib.hid hNow
          replace hwg := Lib.hid hwg
          replace hby := Lib.hid hby
          go_ret2
          exact ⟨P, p, S, by rw [hSl]; rfl, hS1.out, hS2.out, hRz.out, hPb2.out, R2, T2, ⟨_, hNow.out⟩, inv5.out, hwg.out, hby.out⟩
end
end Go.Proofs.Ytfpepgeaaadpdaa
