/- the reference's loads: Get, set. -/
import Derived.Test.YtdkcjfcjckpjcaaLoadC
import Derived.Test.YtdkcjfcjckpjcaaKitC
namespace Go.Proofs.Ytdkcjfcjckpjcaa
open Go Go.RowKit Go.Deep

structure Two (w : World) (base : Nat) (A : Option Addr) (c : Nat) (L : List Int) (B : Option Addr) (d : Nat) (K : List Int) : Prop where
  fst : OwnI w base A c L
  snd : OwnI w base B d K
  apart : ∀ b, InB A b → ¬ InB B b
section
variable {w w' : World} {base : Nat} {A A' B B' : Option Addr} {c d c' d' : Nat} {L K : List Int} {v : Int}
theorem Two.push1 (h : Two w base A c L B d K) (ho : OwnI w' base A' c' (L ++ [v])) (hp : Pushed w w' A A') : Two w' base A' c' (L ++ [v]) B d K :=
  ⟨ho, h.snd.chg hp.chg fun b hb hA => h.apart b hA hb, fun b hb hB => by
    rcases hp.new b hb with h1 | h1
    · exact h.apart b h1 hB
    · have := (h.snd.block hB).2; omega⟩
theorem Two.push2 (h : Two w base A c L B d K) (ho : OwnI w' base B' d' (K ++ [v])) (hp : Pushed w w' B B') : Two w' base A c L B' d' (K ++ [v]) :=
  ⟨h.fst.chg hp.chg fun b hb hB => h.apart b hb hB, ho, fun b hb hB => by
    rcases hp.new b hB with h1 | h1
    · exact h.apart b hb h1
    · have := (h.fst.block hb).2; omega⟩
end

def RLoadAt (w : World) (g : Nat) (M : LM) : Prop := ∃ A c B d, Blk w g 97 #[.slice A M.length c, .slice B M.length d] ∧ Reads w w.heap.size 1 A (M.map Prod.fst).length ((M.map Prod.fst).map (.int .i64)) ∧ Reads w w.heap.size 1 B (M.map Prod.snd).length ((M.map Prod.snd).map (.int .i64))
theorem RLoadAt.call {w w' : World} {g : Nat} {M : LM} (h : RLoadAt w g M) (hb : Below w.heap.size w w') : RLoadAt w' g M := by
  obtain ⟨A, c, B, d, h1, h2, h3⟩ := h
  exact ⟨A, c, B, d, h1.call hb, (h2.below hb).more hb.size, (h3.below hb).more hb.size⟩
theorem lmGet_hit {M : LM} {id : Int} {k : Nat} (h : ∀ j, j < k → (M.getD j (0, 0)).1 ≠ id) (hk : k < M.length) (he : (M.getD k (0, 0)).1 = id) : lmGet M id = (M.getD k (0, 0)).2 := by
  unfold lmGet
  have : M.find? (fun x => x.1 == id) = some (M.getD k (0, 0)) := by
    rw [List.find?_eq_some_iff_getElem]
    refine ⟨by simpa using he, k, hk, by simp [List.getD_eq_getElem?_getD, hk], fun j hj => ?_⟩
    have := h j hj
    simp [List.getD_eq_getElem?_getD, show j < M.length by omega] at this
    simpa using this
  rw [this]
theorem lmGet_miss {M : LM} {id : Int} (h : ∀ j, j < M.length → (M.getD j (0, 0)).1 ≠ id) : lmGet M id = 0 := by
  unfold lmGet
  have : M.find? (fun x => x.1 == id) = none := by
    rw [List.find?_eq_none]
    intro x hx
    obtain ⟨j, hj, rfl⟩ := List.getElem_of_mem hx
    have := h j hj
    simp [List.getD_eq_getElem?_getD, hj] at this
    simpa using this
  rw [this]
theorem getD_fst (M : LM) (k : Nat) : (M.map Prod.fst).getD k 0 = (M.getD k (0, 0)).1 := by
  simp [List.getD_eq_getElem?_getD, List.getElem?_map]; cases M[k]? <;> rfl
theorem getD_snd (M : LM) (k : Nat) : (M.map Prod.snd).getD k 0 = (M.getD k (0, 0)).2 := by
  simp [List.getD_eq_getElem?_getD, List.getElem?_map]; cases M[k]? <;> rfl

set_option maxHeartbeats 1000000 in
theorem refload_get (g : Nat) (M : LM) (id : Int) (w : World) (h : RLoadAt w g M) (hl : M.length ≤ 1000000) : Calls Try.prog 114 #[.pointer (some ⟨g, 0, none⟩), .int .i64 id] w fun e w' => e = .returned (.int .i64 (lmGet M id)) ∧ w = w' := by
  obtain ⟨A, c, B, d, h1, h2, h3⟩ := h
  have c0 := h1.cell 0
  have c1 := h1.cell 1
  simp at c0 c1
  go_enter Try.func114, Try.ntmps114
  go_wp2_with fail
  go_loop [5] (fun i => ∃ k : Nat, k ≤ M.length ∧ i = .int .i64 (k : Nat) ∧ ∀ j, j < k → (M.getD j (0, 0)).1 ≠ id) (fun i => M.length - (intOf i).toNat)
  case atStart => exact ⟨0, by omega, rfl, fun j hj => absurd hj (by omega)⟩
  case round =>
    obtain ⟨k, hk, rfl, hall⟩ := hrel
    replace hall := Lib.hid hall
    by_cases hlt : k < M.length
    · have hlti : (k : Int) < (M.length : Int) := by omega
      obtain ⟨ad, rfl, hbl, hc⟩ := h2.int_at (i := k) (by simpa using hlt)
      obtain ⟨ae, rfl, hbl2, hd⟩ := h3.int_at (i := k) (by simpa using hlt)
      rw [getD_fst] at hc
      rw [getD_snd] at hd
      obtain ⟨x, hx⟩ : ∃ x, M.getD k (0, 0) = x := ⟨_, rfl⟩
      rw [hx] at hc hd
      by_cases he : x.1 = id
      · have hfin := lmGet_hit hall.out hlt (by rw [hx, he])
        rw [hx] at hfin
        replace hfin := Lib.hid hfin
        have heb : (x.1 == id) = true := by simpa using he
        replace hx := Lib.hid hx
        replace he := Lib.hid he
        go_wp2_with fail
        go_ret
        exact ⟨by rw [hfin.out]; rfl, rfl⟩
      · have heb : (x.1 == id) = false := by simpa using he
        replace hx := Lib.hid hx
        replace he := Lib.hid he
        go_wp2_with fail
        go_round
        case rel => exact ⟨k + 1, by omega, by go_num, fun i hi => by
          rcases Nat.lt_succ_iff_lt_or_eq.1 hi with h | rfl
          · exact hall.out i h
          · rw [hx.out]; exact he.out⟩
        case measure => simp [intOf]; omega
    · obtain rfl : k = M.length := by omega
      have hlti : ¬ (M.length : Int) < (M.length : Int) := by omega
      have hfin := Lib.hid (lmGet_miss hall.out)
      go_wp2_with fail
      go_ret
      exact ⟨by rw [hfin.out]; rfl, rfl⟩

/-! set: what the loop has built. -/
def refStep (id n : Int) (st : LM × Bool) (x : Int × Int) : LM × Bool :=
  let st1 := if !st.2 && decide (id ≤ x.1) then (st.1 ++ [(id, n)], true) else st
  if x.1 = id then st1 else (st1.1 ++ [x], st1.2)
def refRun (M : LM) (id n : Int) : LM × Bool := M.foldl (refStep id n) ([], n == 0)
def refSet (M : LM) (id n : Int) : LM := if (refRun M id n).2 then (refRun M id n).1 else (refRun M id n).1 ++ [(id, n)]
theorem refRun_succ (M : LM) (id n : Int) (k : Nat) (hk : k < M.length) : refRun (M.take (k + 1)) id n = refStep id n (refRun (M.take k) id n) (M.getD k (0, 0)) := by
  unfold refRun
  rw [List.take_succ_eq_append_getElem hk, List.foldl_append]
  simp [List.getD_eq_getElem?_getD, hk]
theorem refStep_len (id n : Int) (st : LM × Bool) (x : Int × Int) : (refStep id n st x).1.length ≤ st.1.length + 2 := by
  unfold refStep
  dsimp only
  split <;> split <;> simp
theorem refRun_len (id n : Int) : ∀ (M : LM) (st : LM × Bool), (M.foldl (refStep id n) st).1.length ≤ st.1.length + 2 * M.length
  | [], st => by simp
  | x :: M, st => by
    have h1 := refRun_len id n M (refStep id n st x)
    have h2 := refStep_len id n st x
    simp only [List.foldl_cons, List.length_cons]
    omega
theorem refStep_in (id n : Int) (out : LM) (x : Int × Int) (h2 : x.1 = id) : refStep id n (out, false) x = (out ++ [(id, n)], true) := by simp [refStep, h2]
theorem refStep_both (id n : Int) (out : LM) (x : Int × Int) (h : id ≤ x.1) (h2 : x.1 ≠ id) : refStep id n (out, false) x = (out ++ [(id, n)] ++ [x], true) := by simp [refStep, h, h2]
theorem refStep_low (id n : Int) (out : LM) (x : Int × Int) (h : ¬ id ≤ x.1) : refStep id n (out, false) x = (out ++ [x], false) := by
  have : x.1 ≠ id := by omega
  simp [refStep, h, this]
theorem refStep_keep (id n : Int) (out : LM) (x : Int × Int) (h2 : x.1 ≠ id) : refStep id n (out, true) x = (out ++ [x], true) := by simp [refStep, h2]
theorem refStep_drop (id n : Int) (out : LM) (x : Int × Int) (h2 : x.1 = id) : refStep id n (out, true) x = (out, true) := by simp [refStep, h2]
theorem rl_facts {w w' : World} {g : Nat} {t : TypeId} {a b u v : Value} {X Y : Addr} (h1 : Blk w g t #[a, b]) (hb : Below w.heap.size w w') (hc : w.cell? X = some u) (hd : w.cell? Y = some v) :
    w'.cell? ⟨g, 0, none⟩ = some a ∧ w'.cell? ⟨g, 1, none⟩ = some b ∧ w'.cell? X = some u ∧ w'.cell? Y = some v :=
  ⟨by rw [(h1.call hb).cell 0]; rfl, by rw [(h1.call hb).cell 1]; rfl, (hb.cell (block_lt_of_cell hc)).trans hc, (hb.cell (block_lt_of_cell hd)).trans hd⟩
def pre2 (L : LM) : List Int := L.map Prod.fst
def post2 (L : LM) : List Int := L.map Prod.snd
theorem pre2_snoc (L : LM) (x : Int × Int) : pre2 (L ++ [x]) = pre2 L ++ [x.1] := by simp [pre2]
theorem post2_snoc (L : LM) (x : Int × Int) : post2 (L ++ [x]) = post2 L ++ [x.2] := by simp [post2]
theorem pre2_len (L : LM) : (pre2 L).length = L.length := by simp [pre2]
theorem post2_len (L : LM) : (post2 L).length = L.length := by simp [post2]

theorem chg_two {w w1 : World} {g : Nat} (h : Chg (· = g) w w1) (a b : Value) : Chg (· = g) w ((w1.setCell ⟨g, 0, none⟩ a).setCell ⟨g, 1, none⟩ b) :=
  (h.setCell (p := ⟨g, 0, none⟩) (fun _ => rfl) a).setCell (p := ⟨g, 1, none⟩) (fun _ => rfl) b
theorem rload_end {w w1 : World} {g : Nat} {A B P Q : Option Addr} {n c d p q k : Nat} (out : LM) (hB : Blk w1 g 97 #[.slice A n c, .slice B n d]) (hT : Two w1 w.heap.size P p (pre2 out) Q q (post2 out)) (hg : g < w.heap.size) (hk : out.length = k) :
    RLoadAt ((w1.setCell ⟨g, 0, none⟩ (.slice P k p)).setCell ⟨g, 1, none⟩ (.slice Q k q)) g out := by
  subst hk
  have hP : ¬ InB P g := fun h => by have := (hT.fst.block h).1; omega
  have hQ : ¬ InB Q g := fun h => by have := (hT.snd.block h).1; omega
  refine ⟨P, p, Q, q, ?_, ((hT.fst.far (p := ⟨g, 0, none⟩) hP _).far (p := ⟨g, 1, none⟩) hP _).ints, ((hT.snd.far (p := ⟨g, 0, none⟩) hQ _).far (p := ⟨g, 1, none⟩) hQ _).ints⟩
  simpa using (hB.set_ 0 (.slice P out.length p)).set_ 1 (.slice Q out.length q)

set_option maxRecDepth 100000 in
set_option maxHeartbeats 4000000 in
theorem refload_set (g : Nat) (M : LM) (id n : Int) (w : World) (h : RLoadAt w g M) (hl : M.length ≤ 100000) : Calls Try.prog 113 #[.pointer (some ⟨g, 0, none⟩), .int .i64 id, .int .i64 n] w fun e w' => e = .returned (.tuple #[]) ∧ RLoadAt w' g (refSet M id n) ∧ Chg (· = g) w w' := by
  obtain ⟨A, c, B, d, h1, h2, h3⟩ := h
  have c0 := h1.cell 0
  have c1 := h1.cell 1
  simp at c0 c1
  have hglt := h1.lt
  obtain ⟨zb, hzb⟩ : ∃ z, (n == 0) = z := ⟨_, rfl⟩
  have hR0 : refRun ([] : LM) id n = ([], zb) := by rw [← hzb]; rfl
  go_enter Try.func113, Try.ntmps113
  go_wp2_with fail
  clear c0 c1
  go_loopw [6, 7, 8, 9] (fun s t dn i wr => ∃ (k : Nat) (P : Option Addr) (p : Nat) (Q : Option Addr) (q : Nat) (out : LM) (b : Bool), k ≤ M.length ∧ i = .int .i64 (k : Nat) ∧ refRun (M.take k) id n = (out, b) ∧ s = .slice P out.length p ∧ t = .slice Q out.length q ∧ dn = .bool b ∧ Two wr w.heap.size P p (pre2 out) Q q (post2 out) ∧ Below w.heap.size w wr) (fun _ _ _ i _ => M.length - (intOf i).toNat)
  case atStart => exact ⟨0, none, 0, none, 0, [], zb, by omega, rfl, hR0, rfl, rfl, rfl, ⟨OwnA.nil _ _, OwnA.nil _ _, fun b hb => by obtain ⟨a, ha, _⟩ := hb; cases ha⟩, Below.refl _ _⟩
  case round =>
    obtain ⟨k, P, p, Q, q, out, bb, hk, rfl, hR, rfl, rfl, rfl, hT, hb⟩ := hrel
    have hB := h1.call hb
    have c0 := hB.cell 0
    have c1 := hB.cell 1
    simp at c0 c1
    have hz := hb.size
    have hol : out.length ≤ 200000 := by
      have := refRun_len id n (M.take k) ([], n == 0)
      unfold refRun at hR
      rw [hR] at this
      simp at this
      omega
    by_cases hlt : k < M.length
    · have hlti : (k : Int) < (M.length : Int) := by omega
      obtain ⟨ad, rfl, hbl, hc0⟩ := h2.int_at (i := k) (by simpa using hlt)
      obtain ⟨ae, rfl, hbl2, hd0⟩ := h3.int_at (i := k) (by simpa using hlt)
      have hstep := refRun_succ M id n k hlt
      rw [getD_fst] at hc0
      rw [getD_snd] at hd0
      rw [hR] at hstep
      obtain ⟨x, hx⟩ : ∃ x, M.getD k (0, 0) = x := ⟨_, rfl⟩
      rw [hx] at hc0 hd0 hstep
      obtain ⟨_, _, hc, hd⟩ := rl_facts h1 hb hc0 hd0
      clear hx hR hzb hR0 hB
      replace hc0 := Lib.hid hc0
      replace hd0 := Lib.hid hd0
      cases bb
      · by_cases g1 : id ≤ x.1
        · have e1 : decide (id ≤ x.1) = true := by simpa using g1
          by_cases g2 : x.1 = id
          · have e2 : (x.1 != id) = false := by simpa using g2
            rw [refStep_in id n out x g2] at hstep
            replace hstep := Lib.hid hstep
            replace g2 := Lib.hid g2
            go_wp2_with (first
              | (at_builtin; (refine wpList_push_int rfl (.tmp 34) (.tmp 36) rfl w.heap.size P p (pre2 out) (out.length) (by simp [pre2_len]) rfl hT.fst _ rfl rfl (by simp [pre2_len]; omega) (by omega) ?_; intro P1 p1 w1 ho1 hp1; have hT1 := hT.push1 ho1 hp1; have hb1 := hp1.below hb (by omega) (fun b hb => (hT.fst.block hb).1); have hz1 := hb1.size; clear c0 c1 hc hd; obtain ⟨c0, c1, hc, hd⟩ := rl_facts h1 hb1 hc0.out hd0.out))
              | (at_builtin; (refine wpList_push_int rfl (.tmp 38) (.tmp 40) rfl w.heap.size Q q (post2 out) (out.length) (by simp [post2_len]) rfl hT1.snd _ rfl rfl (by simp [post2_len]; omega) (by omega) ?_; intro P2 p2 w2 ho2 hp2; have hT2 := hT1.push2 ho2 hp2; have hb2 := hp2.below hb1 (by omega) (fun b hb => (hT1.snd.block hb).1); have hz2 := hb2.size; clear c0 c1 hc hd; obtain ⟨c0, c1, hc, hd⟩ := rl_facts h1 hb2 hc0.out hd0.out)))
            go_roundw
            case rel => exact ⟨k + 1, P1, p1, P2, p2, out ++ [(id, n)], true, by omega, by go_num, hstep.out, by simp, by simp, rfl, by (try simp only [pre2_snoc, post2_snoc]); exact hT2, hb2⟩
            case measure => simp [intOf]; omega
          · have e2 : (x.1 != id) = true := by simpa using g2
            rw [refStep_both id n out x g1 g2] at hstep
            replace hstep := Lib.hid hstep
            replace g2 := Lib.hid g2
            go_wp2_with (first
              | (at_builtin; (refine wpList_push_int rfl (.tmp 34) (.tmp 36) rfl w.heap.size P p (pre2 out) (out.length) (by simp [pre2_len]) rfl hT.fst _ rfl rfl (by simp [pre2_len]; omega) (by omega) ?_; intro P1 p1 w1 ho1 hp1; have hT1 := hT.push1 ho1 hp1; have hb1 := hp1.below hb (by omega) (fun b hb => (hT.fst.block hb).1); have hz1 := hb1.size; clear c0 c1 hc hd; obtain ⟨c0, c1, hc, hd⟩ := rl_facts h1 hb1 hc0.out hd0.out))
              | (at_builtin; (refine wpList_push_int rfl (.tmp 38) (.tmp 40) rfl w.heap.size Q q (post2 out) (out.length) (by simp [post2_len]) rfl hT1.snd _ rfl rfl (by simp [post2_len]; omega) (by omega) ?_; intro P2 p2 w2 ho2 hp2; have hT2 := hT1.push2 ho2 hp2; have hb2 := hp2.below hb1 (by omega) (fun b hb => (hT1.snd.block hb).1); have hz2 := hb2.size; clear c0 c1 hc hd; obtain ⟨c0, c1, hc, hd⟩ := rl_facts h1 hb2 hc0.out hd0.out))
              | (at_builtin; (refine wpList_push_int rfl (.tmp 51) (.tmp 59) rfl w.heap.size P1 p1 (pre2 out ++ [id]) (out.length + 1) (by simp [pre2_len]) rfl hT2.fst _ rfl rfl (by simp [pre2_len]; omega) (by omega) ?_; intro P3 p3 w3 ho3 hp3; have hT3 := hT2.push1 ho3 hp3; have hb3 := hp3.below hb2 (by omega) (fun b hb => (hT2.fst.block hb).1); have hz3 := hb3.size; clear c0 c1 hc hd; obtain ⟨c0, c1, hc, hd⟩ := rl_facts h1 hb3 hc0.out hd0.out))
              | (at_builtin; (refine wpList_push_int rfl (.tmp 61) (.tmp 69) rfl w.heap.size P2 p2 (post2 out ++ [n]) (out.length + 1) (by simp [post2_len]) rfl hT3.snd _ rfl rfl (by simp [post2_len]; omega) (by omega) ?_; intro P4 p4 w4 ho4 hp4; have hT4 := hT3.push2 ho4 hp4; have hb4 := hp4.below hb3 (by omega) (fun b hb => (hT3.snd.block hb).1); have hz4 := hb4.size; clear c0 c1 hc hd; obtain ⟨c0, c1, hc, hd⟩ := rl_facts h1 hb4 hc0.out hd0.out)))
            go_roundw
            case rel => exact ⟨k + 1, P3, p3, P4, p4, out ++ [(id, n)] ++ [x], true, by omega, by go_num, hstep.out, by simp, by simp, rfl, by (try simp only [pre2_snoc, post2_snoc]); exact hT4, hb4⟩
            case measure => simp [intOf]; omega
        · have e1 : decide (id ≤ x.1) = false := by simpa using g1
          have e2 : (x.1 != id) = true := by rw [bne_iff_ne]; omega
          rw [refStep_low id n out x g1] at hstep
          replace hstep := Lib.hid hstep
          go_wp2_with (first
            | (at_builtin; (refine wpList_push_int rfl (.tmp 51) (.tmp 59) rfl w.heap.size P p (pre2 out) (out.length) (by simp [pre2_len]) rfl hT.fst _ rfl rfl (by simp [pre2_len]; omega) (by omega) ?_; intro P3 p3 w3 ho3 hp3; have hT3 := hT.push1 ho3 hp3; have hb3 := hp3.below hb (by omega) (fun b hb => (hT.fst.block hb).1); have hz3 := hb3.size; clear c0 c1 hc hd; obtain ⟨c0, c1, hc, hd⟩ := rl_facts h1 hb3 hc0.out hd0.out))
            | (at_builtin; (refine wpList_push_int rfl (.tmp 61) (.tmp 69) rfl w.heap.size Q q (post2 out) (out.length) (by simp [post2_len]) rfl hT3.snd _ rfl rfl (by simp [post2_len]; omega) (by omega) ?_; intro P4 p4 w4 ho4 hp4; have hT4 := hT3.push2 ho4 hp4; have hb4 := hp4.below hb3 (by omega) (fun b hb => (hT3.snd.block hb).1); have hz4 := hb4.size; clear c0 c1 hc hd; obtain ⟨c0, c1, hc, hd⟩ := rl_facts h1 hb4 hc0.out hd0.out)))
          go_roundw
          case rel => exact ⟨k + 1, P3, p3, P4, p4, out ++ [x], false, by omega, by go_num, hstep.out, by simp, by simp, rfl, by (try simp only [pre2_snoc, post2_snoc]); exact hT4, hb4⟩
          case measure => simp [intOf]; omega
      · by_cases g2 : x.1 = id
        · have e2 : (x.1 != id) = false := by simpa using g2
          rw [refStep_drop id n out x g2] at hstep
          replace hstep := Lib.hid hstep
          replace g2 := Lib.hid g2
          go_wp2_with fail
          go_roundw
          case rel => exact ⟨k + 1, P, p, Q, q, out, true, by omega, by go_num, hstep.out, by simp, by simp, rfl, by (try simp only [pre2_snoc, post2_snoc]); exact hT, hb⟩
          case measure => simp [intOf]; omega
        · have e2 : (x.1 != id) = true := by simpa using g2
          rw [refStep_keep id n out x g2] at hstep
          replace hstep := Lib.hid hstep
          replace g2 := Lib.hid g2
          go_wp2_with (first
            | (at_builtin; (refine wpList_push_int rfl (.tmp 51) (.tmp 59) rfl w.heap.size P p (pre2 out) (out.length) (by simp [pre2_len]) rfl hT.fst _ rfl rfl (by simp [pre2_len]; omega) (by omega) ?_; intro P3 p3 w3 ho3 hp3; have hT3 := hT.push1 ho3 hp3; have hb3 := hp3.below hb (by omega) (fun b hb => (hT.fst.block hb).1); have hz3 := hb3.size; clear c0 c1 hc hd; obtain ⟨c0, c1, hc, hd⟩ := rl_facts h1 hb3 hc0.out hd0.out))
            | (at_builtin; (refine wpList_push_int rfl (.tmp 61) (.tmp 69) rfl w.heap.size Q q (post2 out) (out.length) (by simp [post2_len]) rfl hT3.snd _ rfl rfl (by simp [post2_len]; omega) (by omega) ?_; intro P4 p4 w4 ho4 hp4; have hT4 := hT3.push2 ho4 hp4; have hb4 := hp4.below hb3 (by omega) (fun b hb => (hT3.snd.block hb).1); have hz4 := hb4.size; clear c0 c1 hc hd; obtain ⟨c0, c1, hc, hd⟩ := rl_facts h1 hb4 hc0.out hd0.out)))
          go_roundw
          case rel => exact ⟨k + 1, P3, p3, P4, p4, out ++ [x], true, by omega, by go_num, hstep.out, by simp, by simp, rfl, by (try simp only [pre2_snoc, post2_snoc]); exact hT4, hb4⟩
          case measure => simp [intOf]; omega
    · obtain rfl : k = M.length := by omega
      have hlti : ¬ (M.length : Int) < (M.length : Int) := by omega
      rw [List.take_length] at hR
      have q0 := hB.frozen 0
      have q1 := hB.frozen 1
      cases bb
      · have hfin : refSet M id n = out ++ [(id, n)] := by unfold refSet; rw [hR]; rfl
        replace hfin := Lib.hid hfin
        clear hR hzb hR0 q0 q1
        go_wp2_with (first
          | (at_builtin; (refine wpList_push_int rfl (.tmp 73) (.tmp 75) rfl w.heap.size P p (pre2 out) (out.length) (by simp [pre2_len]) rfl hT.fst _ rfl rfl (by simp [pre2_len]; omega) (by omega) ?_; intro P1 p1 w1 ho1 hp1; have hT1 := hT.push1 ho1 hp1; have hb1 := hp1.below hb (by omega) (fun b hb => (hT.fst.block hb).1); have hz1 := hb1.size; clear c0 c1; have c0 := (h1.call hb1).cell 0; have c1 := (h1.call hb1).cell 1; simp at c0 c1; skip))
          | (at_builtin; (refine wpList_push_int rfl (.tmp 77) (.tmp 79) rfl w.heap.size Q q (post2 out) (out.length) (by simp [post2_len]) rfl hT1.snd _ rfl rfl (by simp [post2_len]; omega) (by omega) ?_; intro P2 p2 w2 ho2 hp2; have hT2 := hT1.push2 ho2 hp2; have hb2 := hp2.below hb1 (by omega) (fun b hb => (hT1.snd.block hb).1); have hz2 := hb2.size; clear c0 c1; have c0 := (h1.call hb2).cell 0; have c1 := (h1.call hb2).cell 1; simp at c0 c1; have q0 := (h1.call hb2).frozen 0; have q1 := (h1.call hb2).frozen 1)))
        go_end0
        exact ⟨rfl, by rw [hfin.out]; exact rload_end (out ++ [(id, n)]) (h1.call hb2) (by rw [pre2_snoc, post2_snoc]; exact hT2) hglt (by simp), chg_two (Chg.of_below hb2) _ _⟩
      · have hfin : refSet M id n = out := by unfold refSet; rw [hR]; rfl
        replace hfin := Lib.hid hfin
        clear hR hzb hR0
        go_wp2_with fail
        go_end0
        exact ⟨rfl, by rw [hfin.out]; exact rload_end out hB hT hglt rfl, chg_two (Chg.of_below hb) _ _⟩
end Go.Proofs.Ytdkcjfcjckpjcaa
