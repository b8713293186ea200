/- two: Best, Pick. -/
import Derived.Test.YtdkcjfcjckpjcaaTwoC
namespace Go.Proofs.Ytdkcjfcjckpjcaa
open Go Go.RowKit Go.Deep

theorem info_bk : (Try.prog.info? 106).map (fun i => (i.zero, i.size, i.bytes)) = some (some (.agg #[.int .i64 0, .int .i64 0, .int .i64 0, .bool false, .int .u64 0, .int .u64 0]), 6, 48) := by kernel_rfl
abbrev OwnB (w : World) (base : Nat) (A : Option Addr) (c : Nat) (l : List Bk) : Prop := OwnA Bk.cells 6 106 w base A c l
theorem wpList_push_bk {W : World} {cs : Array Value} {ops : Array Oper} {rest : List Oper} {o : Oper} {a : Act} {Q : Exit → Act → World → Prop} (hgd : o.guard = none) (s x : Operand)
    (ho : o.op = .call { callee := .builtin .append, args := #[s, x], argTypes := #[89, 89] })
    (base : Nat) (A : Option Addr) (c : Nat) (l : List Bk) (v : Bk) (n : Nat) (hn : l.length = n) (hs : a.eval s = .slice A n c) (hown : OwnB W base A c l) (g : Nat) (hg : g = W.heap.size) (hcs : v.cells.toArray = cs)
    (hx : a.eval x = .slice (some ⟨g, 0, none⟩) 1 1) (hl : l.length ≤ 1000000) (hbase : base ≤ W.heap.size)
    (h : ∀ A' c' w', OwnB w' base A' c' (l ++ [v]) → Pushed W w' A A' → wpList Try.prog ops Q rest (a.put o.dst (.slice A' (n + 1) c')) w') : wpList Try.prog ops Q (o :: rest) a (W.alloc (.cells cs 106)) := by
  obtain ⟨i0, hi0, hz0, hz1, hz2⟩ := info_parts info_bk
  exact wpList_push Bk.cells 6 (fun _ => rfl) (fun b u hu => by
    simp at hu; rcases hu with rfl | rfl | rfl | rfl | rfl | rfl <;> rfl) (by omega) 89 i0 _ 48 Try.underlying89 hi0 hz0 hz1 hz2 rfl (by omega) hgd s x ho base A c l v n hn hs hown g hg hcs hx hl hbase h

def drawnL (l : List Bk) (ds : List Int) : List Bk := if l.length = 0 then [] else ds.map fun d => drawB l d.toNat
theorem drawnL_len (l : List Bk) (ds : List Int) : (drawnL l ds).length ≤ ds.length := by unfold drawnL; split <;> simp
theorem drawB_mem {l : List Bk} {x : Nat} (hx : x < 18446744073709551616) (h : l.length ≠ 0) (hl : l.length ≤ 1000000) : drawB l x ∈ l := by
  obtain ⟨k, hk, hkl⟩ := scale_nat x l.length hx (by omega) (by omega)
  unfold drawB
  rw [if_neg h, hk, Int.toNat_natCast, List.getD_eq_getElem?_getD, List.getElem?_eq_getElem hkl]
  exact List.getElem_mem hkl
theorem drawnL_succ (l : List Bk) (ds : List Int) (k : Nat) (hk : k < ds.length) : drawnL l (ds.take (k + 1)) = if l.length = 0 then [] else drawnL l (ds.take k) ++ [drawB l (ds.getD k 0).toNat] := by
  unfold drawnL
  rw [List.take_succ_eq_append_getElem hk, List.getD_eq_getElem?_getD, List.getElem?_eq_getElem hk]
  split
  · rfl
  · rw [List.map_append]; rfl
theorem Reads.intk_at {w : World} {B : Nat} {A : Option Addr} {xs : List Int} {k : IntKind} {i : Nat} (h : Reads w B 1 A xs.length (xs.map (.int k))) (hi : i < xs.length) : ∃ ad, A = some ad ∧ ad.block < B ∧ w.cell? (ad.add i) = some (.int k (xs.getD i 0)) := h.int_at hi

set_option maxRecDepth 100000 in
set_option maxHeartbeats 4000000 in
theorem two_best (ver : Int) (l : List Bk) (A : Option Addr) (c : Nat) (g b : Nat) (M : LM) (D : Option Addr) (d : Nat) (ds : List Int) (w : World) (hr : Reads w w.heap.size 6 A l.length (l.flatMap Bk.cells)) (hl : l.length ≤ 1000000) (hd : Reads w w.heap.size 1 D ds.length (ds.map (.int .u64))) (hdl : ds.length ≤ 1000)
    (hds : ∀ x ∈ ds, 0 ≤ x ∧ x < 18446744073709551616) (h : LoadAt w g b M) (hwf : ∀ x ∈ l, bkWf x) :
    Calls Try.prog 85 #[.agg #[.int .i64 ver, .slice A l.length c], .pointer (some ⟨g, 0, none⟩), .slice D ds.length d] w fun e w' => e = .returned (.tuple #[.int .i64 (foldB M (drawnL l ds)).id, .bool (decide (0 < (drawnL l ds).length))]) ∧ Below w.heap.size w w' := by
  have DR := fun x W hx hr => two_draw ver l A c x W hx hr hl
  have B0 : Blk (w.alloc (.cells #[.int .i64 ver, .slice A l.length c] 102)) w.heap.size 102 #[.int .i64 ver, .slice A l.length c] := Blk.new w _ _
  replace DR := Lib.hid DR
  go_enter Try.func85, Try.ntmps85
  go_wp2_with fail
  go_loopw [8, 17] (fun s i wr => ∃ (k : Nat) (P : Option Addr) (p : Nat), k ≤ ds.length ∧ i = .int .i64 (k : Nat) ∧ s = .slice P (drawnL l (ds.take k)).length p ∧ OwnB wr w.heap.size P p (drawnL l (ds.take k)) ∧ Blk wr w.heap.size 102 #[.int .i64 ver, .slice A l.length c] ∧ ¬ InB P w.heap.size ∧ Below w.heap.size w wr) (fun _ i _ => ds.length - (intOf i).toNat)
  case atStart => exact ⟨0, none, 0, by omega, rfl, by simp [drawnL], (by
    have : drawnL l (ds.take 0) = [] := by simp [drawnL]
    rw [this]; exact OwnA.nil _ _), B0, (fun h => by obtain ⟨a, ha, _⟩ := h; cases ha), (by repeat (first | exact Below.refl _ _ | assumption | refine below_alloc ?_ _ | refine below_chain (by assumption) ?_ | refine below_call2 (by assumption) ?_ (by first | omega | (simp; done) | (simp; omega) | (simp [World.setCell]; omega)) | refine below_drewN ?_ _ | refine Below.drew ?_ | refine Below.alloc ?_ (by first | omega | (simp; done) | (simp; omega) | (simp [World.setCell]; omega)) _ | refine Below.setCell ?_ (by first | omega | (simp; done) | (simp; omega) | (simp [World.setCell]; omega)) _))⟩
  case round =>
    obtain ⟨k, P, p, hk, rfl, rfl, hO, hB, hnP, hb⟩ := hrel
    by_cases hlt : k < ds.length
    · have hlti : (k : Int) < (ds.length : Int) := by omega
      obtain ⟨ad, rfl, hbl, hc0⟩ := hd.intk_at hlt
      have hstep := drawnL_succ l ds k hlt
      obtain ⟨x, hx⟩ : ∃ x, ds.getD k 0 = x := ⟨_, rfl⟩
      have hxr := hds x (by rw [← hx, List.getD_eq_getElem?_getD, List.getElem?_eq_getElem hlt]; exact List.getElem_mem hlt)
      rw [hx] at hc0 hstep
      obtain ⟨x, rfl⟩ := Int.eq_ofNat_of_zero_le hxr.1
      rw [Int.toNat_natCast] at hstep
      have hc := (hb.cell (by rw [block_of_add]; exact hbl)).trans hc0
      have s0 := hB.cell 0
      have s1 := hB.cell 1
      simp at s0 s1
      have hrr : Reads wr wr.heap.size 6 A l.length (l.flatMap Bk.cells) := (hr.below hb).more hb.size
      have hol : (drawnL l (ds.take k)).length ≤ 1000 := by
        have := drawnL_len l (ds.take k)
        have : (ds.take k).length ≤ k := List.length_take_le _ _
        omega
      have DX := DR.out x wr (by omega) hrr
      have hzB := hb.size
      by_cases h0 : l.length = 0
      · rw [if_pos h0] at hstep
        have e1 : drawnL l (ds.take k) = [] := by unfold drawnL; rw [if_pos h0]
        have hdo : drawOk l = false := by simp [drawOk, h0]
        rw [hdo] at DX
        generalize drawB l x = y at *
        obtain ⟨yi, yw, ys, yv, yh, yo⟩ := y
        rw [e1]
        rw [e1] at hO
        unfold Bk.val at DX
        dsimp only at DX
        replace DX := Lib.hid DX
        replace hstep := Lib.hid hstep
        replace hx := Lib.hid hx
        replace e1 := Lib.hid e1
        replace h0 := Lib.hid h0
        clear hdo hol
        go_wp2_with (first
          | (go_at_call 81; with_reducible refine DX.out.mono ?_; rintro e w1 ⟨rfl, hb1⟩; have hO1 := hO.call hb1; have hB1 := hB.call hb1; have hb2 := below_chain hb1 hb; have hz2 := hb2.size))
        go_roundw
        case rel => exact ⟨k + 1, P, p, by omega, by go_num, by rw [hstep.out]; rfl, by rw [hstep.out]; exact hO1.alloc _, hB1.alloc _, hnP, below_alloc hb2 _⟩
        case measure => simp [intOf]; omega
      · rw [if_neg h0] at hstep
        have hdo : drawOk l = true := by simp [drawOk, h0]
        rw [hdo] at DX
        generalize drawB l x = y at *
        obtain ⟨yi, yw, ys, yv, yh, yo⟩ := y
        generalize drawnL l (ds.take k) = L at *
        unfold Bk.val at DX
        dsimp only at DX
        replace DX := Lib.hid DX
        replace hstep := Lib.hid hstep
        replace hx := Lib.hid hx
        clear hdo
        go_wp2_with (first
          | (go_at_call 81; with_reducible refine DX.out.mono ?_; rintro e w1 ⟨rfl, hb1⟩; have hO1 := hO.call hb1; have hB1 := hB.call hb1; have hb2 := below_chain hb1 hb; have hz2 := hb2.size)
          | (at_builtin; (refine wpList_push_bk rfl (.tmp 28) (.tmp 30) rfl w.heap.size P p L ⟨yi, yw, ys, yv, yh, yo⟩ L.length rfl rfl (hO1.alloc _) _ (by simp) rfl rfl (by omega) (by simp; omega) ?_; intro P1 p1 w2 ho1 hp1; have hB2 := (hB1.alloc (.cells #[.int .i64 yi, .int .i64 yw, .int .i64 ys, .bool yv, .int .u64 yh, .int .u64 yo] 106)).chg hp1.chg hnP; have hb3 := hp1.below (below_alloc hb2 _) (by simp; omega) (fun b hb => (hO1.block hb).1); have hnP2 : ¬ InB P1 w.heap.size := (fun hi => by rcases hp1.new _ hi with hi | hi; exact hnP hi; simp at hi; omega))))
        go_roundw
        case rel => exact ⟨k + 1, P1, p1, by omega, by go_num, by rw [hstep.out]; simp, by rw [hstep.out]; exact ho1, hB2, hnP2, hb3⟩
        case measure => simp [intOf]; omega
    · obtain rfl : k = ds.length := by omega
      have hlti : ¬ (ds.length : Int) < (ds.length : Int) := by omega
      rw [List.take_length] at hO ⊢
      have hlen := drawnL_len l ds
      have hdw : ∀ x ∈ drawnL l ds, bkWf x := by
        intro x hx
        unfold drawnL at hx
        split at hx
        · simp at hx
        · rename_i h0
          obtain ⟨y, hy, rfl⟩ := List.mem_map.1 hx
          have := hds y hy
          exact hwf _ (drawB_mem (by omega) h0 hl)
      have hLr := h.call hb
      have FO := fun A c gc W hr hl hc h => fold_any (drawnL l ds) A c gc g b M W hr hl hc h hdw
      have BE := better_any g
      obtain ⟨L, hL⟩ : ∃ L, drawnL l ds = L := ⟨_, rfl⟩
      rw [hL] at FO hO hlen ⊢
      obtain ⟨y, hy⟩ : ∃ y, foldB M L = y := ⟨_, rfl⟩
      rw [hy] at FO
      obtain ⟨o, ho⟩ : ∃ o, decide (0 < L.length) = o := ⟨_, rfl⟩
      rw [ho] at FO
      obtain ⟨yi, yw, ys, yv, yh, yo⟩ := y
      unfold Bk.val at FO
      dsimp only at FO
      replace FO := Lib.hid FO
      replace BE := Lib.hid BE
      replace hL := Lib.hid hL
      replace hy := Lib.hid hy
      replace ho := Lib.hid ho
      clear hdw hr hd hds h hwf
      go_wp2_with (go_at_call 116; with_reducible refine (BE.out _).mono ?_; rintro e w1 ⟨rfl, rfl⟩)
      have hc1 : (wr.alloc (.cells #[.pointer (some ⟨g, 0, none⟩)] 93)).cell? ⟨wr.heap.size, 0, none⟩ = some (.pointer (some ⟨g, 0, none⟩)) := (Blk.new wr 93 #[.pointer (some ⟨g, 0, none⟩)]).cell 0
      refine (FO.out _ _ _ _ (hO.alloc _).reads (by omega) hc1 (hLr.call (below_alloc (Below.refl _ _) _))).mono ?_
      rintro e w2 ⟨rfl, hb2⟩
      go_wp2_with fail
      go_ret2
      refine ⟨?_, (by repeat (first | exact Below.refl _ _ | assumption | refine below_alloc ?_ _ | refine below_chain (by assumption) ?_ | refine below_call2 (by assumption) ?_ (by first | omega | (simp; done) | (simp; omega) | (simp [World.setCell]; omega)) | refine below_drewN ?_ _ | refine Below.drew ?_ | refine Below.alloc ?_ (by first | omega | (simp; done) | (simp; omega) | (simp [World.setCell]; omega)) _ | refine Below.setCell ?_ (by first | omega | (simp; done) | (simp; omega) | (simp [World.setCell]; omega)) _))⟩
      rw [hL.out, hy.out, ho.out]
      rfl
end Go.Proofs.Ytdkcjfcjckpjcaa
