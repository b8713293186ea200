/- wheel: the document's Set at a number that may be due then. -/
import Derived.Test.YtfpepgeaaadpdaaWheelO
namespace Go.Proofs.Ytfpepgeaaadpdaa
open Go Go.RowKit Go.Deep Go.Maps Go.ChangeMaps

section
variable {w w' : World} {g : Nat} {G now : Int} {M : LM} {A : Option Addr} {c : Nat} {B : Option Addr} {d : Nat}
theorem rw_facts2 {X : Addr} {u : Value} (h1 : RWhAt w g G now M A c B d) (hb : Below w.heap.size w w') (hc : w.cell? X = some u) :
    w'.cell? ⟨g, 2, none⟩ = some (.slice A M.length c) ∧ w'.cell? ⟨g, 3, none⟩ = some (.slice B M.length d) ∧ w'.cell? X = some u :=
  ⟨(h1.call hb).cells.2.2.1, (h1.call hb).cells.2.2.2, (hb.cell (block_lt_of_cell hc)).trans hc⟩
theorem Two.app1 {base : Nat} {L L' K : List Int} {A' : Option Addr} {c' : Nat} (h : Two w base A c L B d K) (ho : OwnI w' base A' c' L') (hp : Pushed w w' A A') : Two w' base A' c' L' B d K :=
  ⟨ho, h.snd.chg hp.chg (fun b hb hA => h.apart b hA hb), fun b hA' hB => (hp.new b hA').elim (fun hA => h.apart b hA hB) (fun hn => by have := (h.snd.block hB).2; omega)⟩
theorem Two.app2 {base : Nat} {L K K' : List Int} {B' : Option Addr} {d' : Nat} (h : Two w base A c L B d K) (ho : OwnI w' base B' d' K') (hp : Pushed w w' B B') : Two w' base A c L B' d' K' :=
  ⟨h.fst.chg hp.chg (fun b hb hB => h.apart b hb hB), ho, fun b hA hB' => (hp.new b hB').elim (fun hB => h.apart b hA hB) (fun hn => by have := (h.fst.block hA).2; omega)⟩
theorem Two.off {base : Nat} {L K : List Int} (h : Two w base A c L B d K) {q : Addr} (hq : q.block < base) (u : Value) : Two (w.setCell q u) base A c L B d K :=
  ⟨h.fst.far (fun hi => by have := (h.fst.block hi).1; omega) u, h.snd.far (fun hi => by have := (h.snd.block hi).1; omega) u, h.apart⟩
theorem wpList_push_ints2 {W : World} {ops : Array Oper} {rest : List Oper} {o : Oper} {a : Act} {Q : Exit → Act → World → Prop} (hgd : o.guard = none) (s x : Operand)
    (ho : o.op = .call { callee := .builtin .append, args := #[s, x], argTypes := #[34, 34] })
    (base : Nat) (A : Option Addr) (c : Nat) (l : List Int) (n : Nat) (hn : l.length = n) (hs : a.eval s = .slice A n c) (hown : OwnI W base A c l) (A2 : Option Addr) (c2 : Nat) (l2 : List Int) (m : Nat) (hm : l2.length = m)
    (hx : a.eval x = .slice A2 m c2) (hr : Reads W W.heap.size 1 A2 m (l2.map (.int .i64))) (hl : n + m ≤ 1000000) (hbase : base ≤ W.heap.size)
    (h : ∀ A' c' w', OwnI w' base A' c' (l ++ l2) → Pushed W w' A A' → wpList Try.prog ops Q rest (a.put o.dst (.slice A' (n + m) c')) w') : wpList Try.prog ops Q (o :: rest) a W := by
  subst hn hm
  refine wpList_push_ints hgd s x ho base A c l hs hown A2 c2 l2 hx hr hl hbase fun A' c' w' h1 h2 => ?_
  rw [List.length_append]
  exact h A' c' w' h1 h2
set_option maxRecDepth 100000 in
set_option maxHeartbeats 8000000 in
theorem refwheel_set (h : RWhAt w g G now M A c B d) (hl : M.length ≤ 100000) (n : Nat) (hn : n < 4096) (due : Int) (hd : 0 ≤ due ∧ due ≤ 2199023255552) : Calls Try.prog 9 #[.pointer (some ⟨g, 0, none⟩), .int .i64 (n : Int), .int .i64 due] w fun e w' => e = .returned (.bool true) ∧
    ∃ A' c' B' d', RWhAt w' g G now (lmPut M n due) A' c' B' d' ∧ (∀ b, InB A' b ∨ InB B' b → w.heap.size ≤ b) ∧ Chg (· = g) w w' := by
  have UN := Lib.hid (refwheel_unset h hl n)
  have d1 : decide ((n : Int) < 0) = false := by simp
  have d2 : decide (4095 < (n : Int)) = false := by simp; omega
  have d3 : decide (due < 0) = false := by simp; omega
  have d4 : decide (2199023255552 < due) = false := by simp; omega
  clear h
  go_enter Try.func9, Try.ntmps9
  go_wp2_with fail
  refine UN.out.mono ?_
  rintro e w1 ⟨rfl, A1, c1, B1, d1', h1, hnb1, hc1⟩
  have hz1 := hc1.size
  have hM1 : (lmDel M n).length ≤ 100000 := Nat.le_trans (lmDel_length _ _) hl
  have hnid : ∀ x ∈ lmDel M n, x.1 ≠ (n : Int) := fun x hx => by simpa using (List.mem_filter.1 hx).2
  have hput : lmIns ((n : Int), due) (lmDel M n) = lmPut M n due := rfl
  generalize lmDel M n = M1 at *
  generalize hMP : lmPut M n due = MP at *
  replace hMP := Lib.hid hMP
  generalize lmHas M n = bo at *
  replace hput := Lib.hid hput
  replace hnb1 := Lib.hid hnb1
  replace hc1 := Lib.hid hc1
  have hglt := h1.blk.lt
  have hcA : M1.length ≤ c1 := by have := own_cap h1.two.fst; rwa [pre2_len] at this
  have hcB : M1.length ≤ d1' := by have := own_cap h1.two.snd; rwa [post2_len] at this
  replace h1 := Lib.hid h1
  replace hnid := Lib.hid hnid
  clear UN
  go_wp2_with fail
  go_loopw [7, 8, 9] (fun s t i wr => ∃ (k : Nat) (P : Option Addr) (p : Nat) (Q : Option Addr) (q : Nat), k ≤ M1.length ∧ i = .int .i64 (k : Nat) ∧ s = .slice P k p ∧ t = .slice Q k q ∧ Two wr w1.heap.size P p (pre2 (M1.take k)) Q q (post2 (M1.take k)) ∧ Below w1.heap.size w1 wr ∧ ∀ j (hj : j < k) (h : j < M1.length), M1[j].1 < (n : Int)) (fun _ _ i _ => M1.length - (intOf i).toNat)
  case atStart => exact ⟨0, none, 0, none, 0, by omega, rfl, rfl, rfl, ⟨OwnA.nil _ _, OwnA.nil _ _, fun b hb => absurd hb inB_none⟩, Below.refl _ _, fun j hj => absurd hj (by omega)⟩
  case round =>
    obtain ⟨k, P, p, Q, q, hk, rfl, rfl, rfl, hT, hb, hall⟩ := hrel
    have hR := h1.out.call hb
    obtain ⟨c0, -, c2, c3⟩ := hR.cells
    have hz := hb.size
    have hlk : (M1.take k).length = k := by rw [List.length_take]; omega
    replace hall := Lib.hid hall
    by_cases hs : ∃ hlt : k < M1.length, M1[k].1 < (n : Int)
    · obtain ⟨hlt, hs⟩ := hs
      have hlti : (k : Int) < (M1.length : Int) := by omega
      obtain ⟨ad, ae, hA, hB, hc0, hd0⟩ := rw_at h1.out hlt
      subst hA hB
      have hst : M1.take (k + 1) = M1.take k ++ [M1[k]] := List.take_succ_eq_append_getElem hlt
      obtain ⟨x, hx⟩ : ∃ x, M1[k] = x := ⟨_, rfl⟩
      rw [hx] at hc0 hd0 hst hs
      obtain ⟨-, -, hc, hd⟩ := rw_facts h1.out hb hc0 hd0
      have hs1 : decide (x.1 < (n : Int)) = true := by simpa using hs
      generalize M1.take k = out at *
      clear hR c0
      replace hx := Lib.hid hx
      replace hst := Lib.hid hst
      replace hc0 := Lib.hid hc0
      replace hd0 := Lib.hid hd0
      replace hs := Lib.hid hs
      go_wp2_with (first
        | (at_builtin; (refine wpList_push_int rfl (.tmp 47) (.tmp 55) rfl w1.heap.size P p (pre2 out) k (by rw [pre2_len]; exact hlk) rfl hT.fst _ rfl rfl (by rw [pre2_len]; omega) (by omega) ?_; intro P3 p3 w3 ho3 hp3; have hT3 := hT.push1 ho3 hp3; have hb3 := hp3.below hb (by omega) (fun b hb => (hT.fst.block hb).1); have hz3 := hb3.size; clear c2 c3 hc hd; obtain ⟨c2, c3, hc, hd⟩ := rw_facts h1.out hb3 hc0.out hd0.out))
        | (at_builtin; (refine wpList_push_int rfl (.tmp 57) (.tmp 65) rfl w1.heap.size Q q (post2 out) k (by rw [post2_len]; exact hlk) rfl hT3.snd _ rfl rfl (by rw [post2_len]; omega) (by omega) ?_; intro P4 p4 w4 ho4 hp4; have hT4 := hT3.push2 ho4 hp4; have hb4 := hp4.below hb3 (by omega) (fun b hb => (hT3.snd.block hb).1); have hz4 := hb4.size; clear c2 c3 hc hd; obtain ⟨c2, c3, hc, hd⟩ := rw_facts h1.out hb4 hc0.out hd0.out)))
      go_roundw
      case rel => exact ⟨k + 1, P3, p3, P4, p4, by omega, by go_num, rfl, rfl, by rw [hst.out, pre2_snoc, post2_snoc]; exact hT4, hb4, fun j hj hj2 => by
        by_cases e : j = k
        · subst e
          rw [hx.out]
          exact hs.out
        · exact hall.out j (by omega) hj2⟩
      case measure => simp [intOf]; omega
    · have hins : lmIns ((n : Int), due) M1 = M1.take k ++ ((n : Int), due) :: M1.drop k := lmIns_at M1 k hk hall.out (fun hlt => by
        have h2 := hnid.out M1[k] (List.getElem_mem hlt)
        have h3 : ¬ M1[k].1 < (n : Int) := fun h => hs ⟨hlt, h⟩
        omega)
      rw [hput.out] at hins
      obtain ⟨A2, c2', hsA, hrA⟩ := slice_from_int A1 M1.length c1 k hk hcA
      obtain ⟨B2, d2', hsB, hrB⟩ := slice_from_int B1 M1.length d1' k hk hcB
      have hRA : ∀ W, Chg (· = g) w1 W → Reads W W.heap.size 1 A2 (M1.length - k) ((pre2 (M1.drop k)).map (.int .i64)) := fun W hc => by
        have h5 := (h1.out.two.fst.chg hc (fun b hb e => h1.out.ga (by have e2 : b = g := e; rwa [e2] at hb))).ints
        rw [pre2_len] at h5
        have := hrA _ _ _ h5
        rw [show ((pre2 M1).map (Value.int .i64)).drop k = (pre2 (M1.drop k)).map (Value.int .i64) by simp [pre2, List.map_drop]] at this
        exact this
      have hRB : ∀ W, Chg (· = g) w1 W → Reads W W.heap.size 1 B2 (M1.length - k) ((post2 (M1.drop k)).map (.int .i64)) := fun W hc => by
        have h5 := (h1.out.two.snd.chg hc (fun b hb e => h1.out.gb (by have e2 : b = g := e; rwa [e2] at hb))).ints
        rw [post2_len] at h5
        have := hrB _ _ _ h5
        rw [show ((post2 M1).map (Value.int .i64)).drop k = (post2 (M1.drop k)).map (Value.int .i64) by simp [post2, List.map_drop]] at this
        exact this
      have hdl : (M1.drop k).length = M1.length - k := List.length_drop ..
      have hMl : MP.length = k + 1 + (M1.length - k) := by
        rw [hins, List.length_append, List.length_cons, hlk, hdl]
        omega
      have hMp : pre2 MP = pre2 (M1.take k) ++ [(n : Int)] ++ pre2 (M1.drop k) := by rw [hins]; simp [pre2]
      have hMq : post2 MP = post2 (M1.take k) ++ [due] ++ post2 (M1.drop k) := by rw [hins]; simp [post2]
      replace hRA := Lib.hid hRA
      replace hRB := Lib.hid hRB
      replace hMl := Lib.hid hMl
      replace hMp := Lib.hid hMp
      replace hMq := Lib.hid hMq
      have hki : (k : Int) ≤ (M1.length : Int) := by omega
      have q2 := fun W (hb : Below w1.heap.size w1 W) => (h1.out.call hb).blk.frozen 2
      replace q2 := Lib.hid q2
      clear hrA hrB hins c0 hR
      by_cases hlt : k < M1.length
      case' pos =>
        have hlti : (k : Int) < (M1.length : Int) := by omega
        obtain ⟨ad, ae, hA, hB, hc0, hd0⟩ := rw_at h1.out hlt
        have hs1 : decide (M1[k].1 < (n : Int)) = false := by simp; exact Int.not_lt.1 (fun h => hs ⟨hlt, h⟩)
        subst hA hB
        obtain ⟨-, -, hc, hd⟩ := rw_facts h1.out hb hc0 hd0
        generalize M1[k] = x at *
      case' neg =>
        have hlti : ¬ (k : Int) < (M1.length : Int) := by omega
      all_goals
        generalize M1.take k = out at *
        replace hs := Lib.hid hs
        go_upto_region 13 with (first
          | (at_builtin; (refine wpList_push_int rfl (.tmp 67) (.tmp 69) rfl w1.heap.size P p (pre2 out) k (by rw [pre2_len]; exact hlk) rfl hT.fst _ rfl rfl (by rw [pre2_len]; omega) (by omega) ?_; intro P3 p3 w3 ho3 hp3; have hT3 := hT.push1 ho3 hp3; have hb3 := hp3.below hb (by omega) (fun b hb => (hT.fst.block hb).1); have hz3 := hb3.size; clear c2 c3; have c2 := (h1.out.call hb3).cells.2.2.1; have c3 := (h1.out.call hb3).cells.2.2.2))
          | (at_builtin; (refine wpList_push_int rfl (.tmp 71) (.tmp 73) rfl w1.heap.size Q q (post2 out) k (by rw [post2_len]; exact hlk) rfl hT3.snd _ rfl rfl (by rw [post2_len]; omega) (by omega) ?_; intro P4 p4 w4 ho4 hp4; have hT4 := hT3.push2 ho4 hp4; have hb4 := hp4.below hb3 (by omega) (fun b hb => (hT3.snd.block hb).1); have hz4 := hb4.size; clear c2 c3; have c2 := (h1.out.call hb4).cells.2.2.1; have c3 := (h1.out.call hb4).cells.2.2.2))
          | (at_builtin; (refine wpList_push_ints2 rfl (.tmp 76) (.tmp 82) rfl w1.heap.size P3 p3 (pre2 out ++ [(n : Int)]) (k + 1) (by rw [List.length_append, pre2_len, hlk]; rfl) rfl hT4.fst A2 c2' (pre2 (M1.drop k)) (M1.length - k) (by rw [pre2_len]; exact hdl) rfl (hRA.out _ (Chg.of_below hb4)) (by omega) (by omega) ?_; intro P5 p5 w5 ho5 hp5; have hT5 := hT4.app1 ho5 hp5; have hb5 := hp5.below hb4 (by omega) (fun b hb => (hT4.fst.block hb).1); have hz5 := hb5.size; have f5 := q2.out _ hb5; clear c2 c3; have c2 := (h1.out.call hb5).cells.2.2.1; have c3 := (h1.out.call hb5).cells.2.2.2)))
        obtain ⟨sl, hsl⟩ : ∃ sl, Value.slice P5 (k + 1 + (M1.length - k)) p5 = sl := ⟨_, rfl⟩
        rw [hsl]
        have hB5 := (h1.out.call hb5).blk
        have hB6 := hB5.set_ 2 sl
        have hc6 : Chg (· = g) w1 (w5.setCell ⟨g, 2, none⟩ sl) := Chg.setCell (F := (· = g)) (p := ⟨g, 2, none⟩) (Chg.of_below hb5) (fun _ => rfl) _
        have hT6 := hT5.off (q := ⟨g, 2, none⟩) hglt sl
        clear hB5 c2 c3 f5 ho5 hp5 hT5 hb5 hz5
        generalize w5.setCell ⟨g, 2, none⟩ sl = w6 at *
        have c3 := hB6.cell 3
        have f3 := hB6.frozen 3
        simp at c3
        have hz6 := hc6.size
        have hg7 : ¬ InB P4 g := fun hi => by have := (hT6.snd.block hi).1; omega
        replace hsl := Lib.hid hsl
        go_wp2_with (first
          | (at_builtin; (refine wpList_push_ints2 rfl (.tmp 87) (.tmp 93) rfl w1.heap.size P4 p4 (post2 out ++ [due]) (k + 1) (by rw [List.length_append, post2_len, hlk]; rfl) rfl hT6.snd B2 d2' (post2 (M1.drop k)) (M1.length - k) (by rw [post2_len]; exact hdl) rfl (hRB.out _ hc6) (by omega) (by omega) ?_; intro P7 p7 w7 ho7 hp7; have hT7 := hT6.app2 ho7 hp7; have hB7 := hB6.chg hp7.chg hg7; clear c3 f3; have c3 := hB7.cell 3; have f3 := hB7.frozen 3; simp at c3)))
        have hc7 : Chg (· = g) w1 w7 := hc6.trans hp7.chg (fun b hb hF => absurd (hT6.snd.block hF).1 (by omega))
        have hN : RWhAt (w7.setCell ⟨g, 3, none⟩ (.slice P7 (k + 1 + (M1.length - k)) p7)) g G now MP P5 p5 P7 p7 := by
          refine ⟨?_, ?_, fun hi => by have := (hT7.fst.block hi).1; omega, fun hi => by have := (hT7.snd.block hi).1; omega⟩
          · have := hB7.set_ 3 (.slice P7 (k + 1 + (M1.length - k)) p7)
            rw [hMl.out]
            rw [← hsl.out] at this
            simpa using this
          · rw [hMp.out, hMq.out]
            exact (hT7.off (q := ⟨g, 3, none⟩) hglt _).base (Nat.zero_le _)
        have hC : Chg (· = g) w (w7.setCell ⟨g, 3, none⟩ (.slice P7 (k + 1 + (M1.length - k)) p7)) := Chg.setCell (F := (· = g)) (p := ⟨g, 3, none⟩) (hc1.out.trans hc7 (fun _ _ h => h)) (fun _ => rfl) _
        have hnb : ∀ b, InB P5 b ∨ InB P7 b → w.heap.size ≤ b := fun b hb => by
          rcases hb with hb | hb
          · have := (hT7.fst.block hb).1; omega
          · have := (hT7.snd.block hb).1; omega
        replace hN := Lib.hid hN
        replace hC := Lib.hid hC
        replace hnb := Lib.hid hnb
        go_ret
        have hN2 : RWhAt (w7.setCell ⟨g, 3, none⟩ (.slice P7 (k + 1 + (M1.length - k)) p7)) g G now (lmPut M n due) P5 p5 P7 p7 := by rw [hMP.out]; exact hN.out
        first | exact ⟨rfl, P5, p5, P7, ⟨p7, hN2⟩, hnb.out, hC.out⟩ | exact ⟨rfl, P5, p5, P7, p7, hN2, hnb.out, hC.out⟩
end
end Go.Proofs.Ytfpepgeaaadpdaa
