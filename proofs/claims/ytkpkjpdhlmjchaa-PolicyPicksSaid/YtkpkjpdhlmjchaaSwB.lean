/- swrr: set. -/
import Derived.Test.YtkpkjpdhlmjchaaSwA
import Derived.StillTailTactics
import Derived.Deep.QuietTactic
import Derived.BigQuiet
import Derived.Deep.RegionLaw
import Derived.Deep.RegionWith
namespace Go.Proofs.Ytkpkjpdhlmjchaa
open Go Go.RowKit Go.Deep

def zeroT (l : List Bk) : List Trn := l.map fun b => (b, 0)
theorem zeroT_take (l : List Bk) (k : Nat) (x : Bk) (h : l[k]? = some x) : zeroT (l.take (k + 1)) = zeroT (l.take k) ++ [(x, 0)] := by
  obtain ⟨hk, rfl⟩ := List.getElem?_eq_some_iff.1 h
  unfold zeroT
  rw [List.take_succ_eq_append_getElem hk, List.map_append]
  rfl
/-- The end of a region in a known frame; no other end. -/
def Ends (fr : Act) (R : World → Prop) : Exit → Act → World → Prop
  | .normal, a, W => a = fr ∧ R W
  | _, _, _ => False
/-- The ways of a region that end in one frame, brought together. -/
theorem wp_merge {P : Program} {c : Code} {Q : Exit → Act → World → Prop} {a : Act} {w : World} (fr : Act) (R : World → Prop) (h : c.wp P (Ends fr R) a w) (k : ∀ W, R W → Q .normal fr W) : c.wp P Q a w :=
  Code.wp_mono (fun e a' W h1 => by
    cases e <;> first | exact (h1 : False).elim | (obtain ⟨rfl, h2⟩ := h1; exact k W h2)) h
/-- The same where the frame holds a slice that was not known before. -/
def Ends2 (fr : Option Addr → Nat → Act) (R : Option Addr → Nat → World → Prop) : Exit → Act → World → Prop
  | .normal, a, W => ∃ P p, a = fr P p ∧ R P p W
  | _, _, _ => False
theorem wp_merge2 {P : Program} {c : Code} {Q : Exit → Act → World → Prop} {a : Act} {w : World} (fr : Option Addr → Nat → Act) (R : Option Addr → Nat → World → Prop) (h : c.wp P (Ends2 fr R) a w) (k : ∀ A p W, R A p W → Q .normal (fr A p) W) : c.wp P Q a w :=
  Code.wp_mono (fun e a' W h1 => by
    cases e <;> first | exact (h1 : False).elim | (obtain ⟨A, p, rfl, h2⟩ := h1; exact k A p W h2)) h
theorem reads_chg {F : Nat → Prop} {w w' : World} {B m n : Nat} {A : Option Addr} {xs : List Value} (h : Reads w B m A n xs) (hB : B ≤ w.heap.size) (hF : ∀ a, A = some a → ¬ F a.block) (k : Chg F w w') : Reads w' B m A n xs := by
  refine ⟨h.1, fun hn => ?_⟩
  obtain ⟨ad, rfl, hb, hc⟩ := h.2 hn
  refine ⟨ad, rfl, hb, fun j u hu => ?_⟩
  rw [World.cell?_of_block (w := w) (a := ad.add j) (by rw [block_of_add]; exact k.block (by omega) (hF ad rfl))]
  exact hc j u hu
theorem Blk.five {w : World} {g : Nat} {t : TypeId} {c0 c1 c2 c3 c4 : Value} (h : Blk w g t #[c0, c1, c2, c3, c4]) :
    (w.cell? ⟨g, 0, none⟩ = some c0 ∧ w.cell? ⟨g, 1, none⟩ = some c1 ∧ w.cell? ⟨g, 2, none⟩ = some c2 ∧ w.cell? ⟨g, 3, none⟩ = some c3 ∧ w.cell? ⟨g, 4, none⟩ = some c4) ∧
      w.frozen? ⟨g, 0, none⟩ = false ∧ w.frozen? ⟨g, 1, none⟩ = false ∧ w.frozen? ⟨g, 2, none⟩ = false ∧ w.frozen? ⟨g, 3, none⟩ = false ∧ w.frozen? ⟨g, 4, none⟩ = false :=
  ⟨⟨h.cell 0, h.cell 1, h.cell 2, h.cell 3, h.cell 4⟩, h.frozen 0, h.frozen 1, h.frozen 2, h.frozen 3, h.frozen 4⟩
set_option maxRecDepth 100000 in
set_option maxHeartbeats 4000000 in
theorem swrr_set_same (base g : Nat) (ver : Int) (wt : Int) (ts : List Trn) (l : List Bk) (A : Option Addr) (c : Nat) (w : World) (h : TurnAt w base g true ver wt ts) :
    Calls Try.prog 115 #[.pointer (some ⟨g, 0, none⟩), .agg #[.int .i64 ver, .slice A l.length c]] w fun e w' => e = .returned (.tuple #[]) ∧ Below w.heap.size w w' := by
  obtain ⟨P, p, h1, h2⟩ := h.call (below_alloc (Below.refl _ _) (.cells #[.int .i64 ver, .slice A l.length c] 36))
  have B0 := Blk.new w 36 #[.int .i64 ver, .slice A l.length c]
  have hb0 : Below w.heap.size w (w.alloc (.cells #[.int .i64 ver, .slice A l.length c] 36)) := below_alloc (Below.refl _ _) _
  have s0 := B0.cell 0
  simp only [List.getElem?_toArray, List.getElem?_cons_zero] at s0
  obtain ⟨⟨t0, t1, t2, t3, t4⟩, -⟩ := h1.five
  clear h h1 h2
  go_enter Try.func115, Try.ntmps115
  go_wp2_with fail
  generalize w.alloc (.cells #[.int .i64 ver, .slice A l.length c] 36) = w0 at *
  go_quiet (fail)
  have hb1 : Below w.heap.size w (w0.drewN nq) := below_drewN hb0 nq
  go_wp2_with fail
  refine bodyPost_ret (results_none rfl _ _ _) rfl ?_
  exact ⟨rfl, hb1⟩
set_option maxRecDepth 100000 in
set_option maxHeartbeats 8000000 in
theorem swrr_set_new (base g : Nat) (s : Bool) (v0 : Int) (wt : Int) (ts : List Trn) (ver : Int) (l : List Bk) (A : Option Addr) (c : Nat) (w : World) (h : TurnAt w base g s v0 wt ts) (hne : ¬ (s = true ∧ v0 = ver))
    (hr : Reads w w.heap.size 6 A l.length (l.flatMap Bk.cells)) (hag : ∀ a, A = some a → ¬ a.block = g) (hl : l.length ≤ 1000) (hw : ∀ b ∈ l, 0 ≤ b.w ∧ b.w ≤ 1000) :
    Calls Try.prog 115 #[.pointer (some ⟨g, 0, none⟩), .agg #[.int .i64 ver, .slice A l.length c]] w fun e w' => e = .returned (.tuple #[]) ∧ TurnAt w' w.heap.size g true ver (sumW l) (zeroT l) ∧ Chg (· = g) w w' := by
  have hc0 := Chg.of_below (F := (· = g)) (below_alloc (Below.refl w.heap.size w) (.cells #[.int .i64 ver, .slice A l.length c] 36))
  obtain ⟨P, p, h1, h2⟩ := h.call (below_alloc (Below.refl _ _) (.cells #[.int .i64 ver, .slice A l.length c] 36))
  have hg : g < w.heap.size := by obtain ⟨_, _, h3, _⟩ := h; exact h3.lt
  have B0 := Blk.new w 36 #[.int .i64 ver, .slice A l.length c]
  have hb0 : Below w.heap.size w (w.alloc (.cells #[.int .i64 ver, .slice A l.length c] 36)) := below_alloc (Below.refl _ _) _
  have s0 := B0.cell 0
  have s1 := B0.cell 1
  simp only [List.getElem?_toArray, List.getElem?_cons_zero, List.getElem?_cons_succ] at s0 s1
  obtain ⟨⟨t0, t1, t2, t3, t4⟩, q0, q1, q2, q3, q4⟩ := h1.five
  have WE := fun W (hb : Below w.heap.size w W) => elig_weight ver l A c W ((hr.below hb).more hb.size) (by omega) hw
  have hzt := zeroT_take l
  have hsz : w.heap.size + 1 = (w.alloc (.cells #[.int .i64 ver, .slice A l.length c] 36)).heap.size := by simp
  generalize sumW l = W0 at *
  replace WE := Lib.hid WE
  replace hzt := Lib.hid hzt
  have hb00 := hb0
  replace hb00 := Lib.hid hb00
  clear h h2 hw
  go_enter Try.func115, Try.ntmps115
  go_wp2_with fail
  generalize w.alloc (.cells #[.int .i64 ver, .slice A l.length c] 36) = w0 at *
  have hcase : (s = false ∨ (s = true ∧ (v0 == ver) = false)) := by
    cases s
    · exact .inl rfl
    · exact .inr ⟨rfl, by simpa using fun e => hne ⟨rfl, e⟩⟩
  clear hne
  rcases hcase with rfl | ⟨rfl, hv⟩
  all_goals
    go_quiet (fail)
    have D1 : Blk (w0.drewN nq) g 184 _ := h1
    have D0 : Blk (w0.drewN nq) w.heap.size 36 #[.int .i64 ver, .slice A l.length c] := B0
    have hcd : Chg (· = g) w (w0.drewN nq) := hc0.drewN nq
    have hbd : Below w.heap.size w (w0.drewN nq) := below_drewN hb0 nq
    clear h1 B0 hc0 hb0 t0 t1 t2 t3 t4 q0 q1 q2 q3 q4 s0 s1
    generalize w0.drewN nq = w1 at *
    obtain ⟨⟨t0, t1, t2, t3, t4⟩, q0, q1, q2, q3, q4⟩ := D1.five
    have s0 := D0.cell 0
    have s1 := D0.cell 1
    simp only [List.getElem?_toArray, List.getElem?_cons_zero, List.getElem?_cons_succ] at s0 s1
    go_wp2_with fail
    have hF : ∀ w4, Below w1.drew.heap.size w1.drew w4 → (w4.cell? ⟨g, 1, none⟩ = w1.cell? ⟨g, 1, none⟩ ∧ w4.cell? ⟨g, 2, none⟩ = some (.int .i64 v0) ∧ w4.cell? ⟨g, 3, none⟩ = some (.int .i64 wt) ∧ w4.cell? ⟨w.heap.size, 0, none⟩ = some (.int .i64 ver) ∧ w4.cell? ⟨w.heap.size, 1, none⟩ = some (.slice A l.length c)) ∧ w4.frozen? ⟨g, 1, none⟩ = false ∧ w4.frozen? ⟨g, 2, none⟩ = false ∧ w4.frozen? ⟨g, 3, none⟩ = false := fun w4 hb4 => by
      have E1 := Blk.call (w := w1.drew) D1 hb4
      have E0 := Blk.call (w := w1.drew) D0 hb4
      exact ⟨⟨(E1.cell 1).trans (D1.cell 1).symm, E1.cell 2, E1.cell 3, E0.cell 0, E0.cell 1⟩, E1.frozen 1, E1.frozen 2, E1.frozen 3⟩
    rw [t1] at hF
    replace hF := Lib.hid hF
    apply wp_merge (R := fun W => Blk W g 184 #[.bool true, .bool true, .int .i64 ver, .int .i64 W0, .slice P ts.length p] ∧ Blk W w.heap.size 36 #[.int .i64 ver, .slice A l.length c] ∧ Chg (· = g) w W)
    · go_region_with (go_at_call 136; (with_reducible refine (WE.out _ (by first | exact hbd | exact hbd.drew)).mono ?_); rintro e w4 ⟨rfl, hb4⟩; obtain ⟨⟨t1, t2, t3, s0, s1⟩, q1, q2, q3⟩ := hF.out w4 hb4)
      all_goals
        have E1 := Blk.call (w := w1.drew) D1 hb4
        have E0 := Blk.call (w := w1.drew) D0 hb4
        have hcc : Chg (· = g) w w4 := hcd.drew.trans (Chg.of_below (F := (· = g)) hb4) (fun _ _ h => h)
        refine ⟨rfl, ?_, ?_, ?_⟩
        · first
            | simpa using ((E1.set_ 1 (.bool true)).set_ 2 (.int .i64 ver)).set_ 3 (.int .i64 W0)
            | simpa using ((E1.set_ 1 (.bool true)).set_ 3 (.int .i64 W0)).set_ 2 (.int .i64 ver)
            | simpa using ((E1.set_ 2 (.int .i64 ver)).set_ 1 (.bool true)).set_ 3 (.int .i64 W0)
            | simpa using ((E1.set_ 2 (.int .i64 ver)).set_ 3 (.int .i64 W0)).set_ 1 (.bool true)
            | simpa using ((E1.set_ 3 (.int .i64 W0)).set_ 1 (.bool true)).set_ 2 (.int .i64 ver)
            | simpa using ((E1.set_ 3 (.int .i64 W0)).set_ 2 (.int .i64 ver)).set_ 1 (.bool true)
        · exact ((E0.far (by show w.heap.size ≠ g; omega) _).far (by show w.heap.size ≠ g; omega) _).far (by show w.heap.size ≠ g; omega) _
        · exact ((hcc.setCell (fun _ => rfl) _).setCell (fun _ => rfl) _).setCell (fun _ => rfl) _
    · clear t0 t1 t2 t3 t4 q0 q1 q2 q3 q4 s0 s1 D1 D0 hcd hbd hF WE
      intro w5 hW5
      obtain ⟨D1, D0, hcd⟩ := hW5
      obtain ⟨⟨t0, t1, t2, t3, t4⟩, q0, q1, q2, q3, q4⟩ := D1.five
      have s1 := D0.cell 1
      simp only [List.getElem?_toArray, List.getElem?_cons_zero, List.getElem?_cons_succ] at s1
      have X4 : ∀ u, Blk (w5.setCell ⟨g, 4, none⟩ u) g 184 #[.bool true, .bool true, .int .i64 ver, .int .i64 W0, u] := fun u => by simpa using D1.set_ 4 u
      have hcx := fun u => hcd.setCell (p := ⟨g, 4, none⟩) (fun _ => rfl) u
      have hzx := hcd.size
      replace X4 := Lib.hid X4
      replace hcx := Lib.hid hcx
      go_wp2_with fail
      have X5 := X4.out (.slice none 0 0)
      have hc5 := hcx.out (.slice none 0 0)
      have s2 : (w5.setCell ⟨g, 4, none⟩ (.slice none 0 0)).heap.size = w5.heap.size := by simp
      clear X4 hcx D1 D0 hcd t0 t1 t2 t3 t4 q0 q1 q2 q3 q4 s1
      generalize w5.setCell ⟨g, 4, none⟩ (.slice none 0 0) = w6 at *
      go_loopw [38] (fun i wr => ∃ (k : Nat) (P1 : Option Addr) (p1 : Nat), k ≤ l.length ∧ i = .int .i64 (k : Nat) ∧ Blk wr g 184 #[.bool true, .bool true, .int .i64 ver, .int .i64 W0, .slice P1 (zeroT (l.take k)).length p1] ∧ OwnT wr w.heap.size P1 p1 (zeroT (l.take k)) ∧ Chg (· = g) w wr) (fun i _ => l.length - (intOf i).toNat)
      case atStart => exact ⟨0, none, 0, by omega, rfl, X5, OwnA.nil _ _, hc5⟩
      case round =>
        obtain ⟨k, P1, p1, hk, rfl, hX, hO, hc⟩ := hrel
        clear X5 hc5 s2
        by_cases hlt : k < l.length
        · have hlti : (k : Int) < (l.length : Int) := by omega
          obtain ⟨ad, x, rfl, hbl, hx, c0, c1, c2, c3, c4, c5⟩ := bk_at (reads_chg hr (Nat.le_refl _) hag hc) hlt
          have hstep := hzt.out k x hx
          have hLl : (zeroT (l.take k)).length ≤ 1000 := by unfold zeroT; rw [List.length_map]; exact Nat.le_trans (List.length_take_le _ _) (by omega)
          generalize zeroT (l.take k) = L at *
          obtain ⟨xi, xw, xs, xv, xh, xo⟩ := x
          dsimp only at *
          have hzr := hc.size
          have hXa := hX.alloc (.cells #[.int .i64 xi, .int .i64 xw, .int .i64 xs, .bool xv, .int .u64 xh, .int .u64 xo] 47)
          have Ba := Blk.new wr 47 #[.int .i64 xi, .int .i64 xw, .int .i64 xs, .bool xv, .int .u64 xh, .int .u64 xo]
          have hOa := hO.alloc (.cells #[.int .i64 xi, .int .i64 xw, .int .i64 xs, .bool xv, .int .u64 xh, .int .u64 xo] 47)
          have hca := hc.alloc (.cells #[.int .i64 xi, .int .i64 xw, .int .i64 xs, .bool xv, .int .u64 xh, .int .u64 xo] 47)
          replace hstep := Lib.hid hstep
          replace hx := Lib.hid hx
          have hgl := hX.lt
          clear hX hO hc
          go_upto_region 7 with (fail)
          generalize wr.alloc (.cells #[.int .i64 xi, .int .i64 xw, .int .i64 xs, .bool xv, .int .u64 xh, .int .u64 xo] 47) = w7 at *
          generalize wr.heap.size = gx at *
          have hza := hca.size
          have hg7 := hXa.lt
          obtain ⟨⟨t0, t1, t2, t3, t4⟩, q0, q1, q2, q3, q4⟩ := hXa.five
          obtain ⟨⟨b0, b1, b2, b3, b4, b5⟩, -⟩ := Ba.six
          obtain ⟨i0, hi0, hz0, hz1, hz2⟩ := info_parts info_trn
          have hz7 : w.heap.size ≤ w7.heap.size := hza
          apply wp_merge2 (R := fun P2 p2 W => Blk W g 184 #[.bool true, .bool true, .int .i64 ver, .int .i64 W0, .slice P2 (L.length + 1) p2] ∧ OwnT W w.heap.size P2 p2 (L ++ [(⟨xi, xw, xs, xv, xh, xo⟩, 0)]) ∧ Chg (· = g) w W)
          · have hSt : ∀ (P2 : Option Addr) (p2 : Nat) (w9 : World), w9.ownsRow w.heap.size 187 7 (.slice P2 (L.length + 1) p2) (L.length + 1) (L.flatMap tcell ++ tcell (⟨xi, xw, xs, xv, xh, xo⟩, 0)) → (w7.alloc (.cells (tcell (⟨xi, xw, xs, xv, xh, xo⟩, 0)).toArray 187)).drew.grownBy w9 (Value.slice P1 L.length p1).ownBlock →
                Blk w9 g 184 #[.bool true, .bool true, .int .i64 ver, .int .i64 W0, .slice P1 L.length p1] ∧ OwnT w9 w.heap.size P2 p2 (L ++ [(⟨xi, xw, xs, xv, xh, xo⟩, 0)]) ∧ Chg (· = g) w w9 := by
              intro P2 p2 w9 h1 h2
              refine ⟨?_, ?_, ?_⟩
              · refine Blk.grown (w := (w7.alloc (.cells (tcell (⟨xi, xw, xs, xv, xh, xo⟩, 0)).toArray 187)).drew) (hXa.alloc _) h2 ?_
                intro e
                have := (hOa.block ((hOa.own_block g).1 e)).1
                omega
              · unfold OwnT OwnA
                rw [List.length_append, List.flatMap_append]
                simpa using h1
              · refine ((hca.alloc _).drew).grown h2 ?_
                intro k hk hlt
                have := (hOa.block ((hOa.own_block k).1 hk)).1
                omega
            have hoD : World.ownsRow (w7.alloc (.cells #[.int .i64 xi, .int .i64 xw, .int .i64 xs, .bool xv, .int .u64 xh, .int .u64 xo, .int .i64 0] 187)).drew w.heap.size 187 7 (.slice P1 L.length p1) L.length (L.flatMap tcell) := hOa.alloc _
            have hrD : Reads (w7.alloc (.cells #[.int .i64 xi, .int .i64 xw, .int .i64 xs, .bool xv, .int .u64 xh, .int .u64 xo, .int .i64 0] 187)).drew (w7.heap.size + 1) 7 (some ⟨w7.heap.size, 0, none⟩) 1 (tcell (⟨xi, xw, xs, xv, xh, xo⟩, 0)) := lits_read w7 (w7.heap.size + 1) 7 1 187 (tcell (⟨xi, xw, xs, xv, xh, xo⟩, 0)) rfl (by omega)
            replace hSt := Lib.hid hSt
            replace hoD := Lib.hid hoD
            replace hrD := Lib.hid hrD
            go_region_law ((refine step_append_sl _ rfl (.tmp 46) (.tmp 49) 182 rfl w.heap.size 187 i0 _ 7 56 Try.underlying182 hi0 hz0 hz1 hz2 rfl (by decide) (.slice P1 L.length p1) L.length (L.flatMap tcell) rfl hoD.out (w7.heap.size + 1) (some ⟨w7.heap.size, 0, none⟩) 1 1 (tcell (⟨xi, xw, xs, xv, xh, xo⟩, 0)) rfl hrD.out (tcell_one _) (by unfold maxLen; omega) (by omega) (by simp; omega) ?_; intro P2 p2 w9 hown' hg' hat'; obtain ⟨hX9, hO9, hc9⟩ := hSt.out P2 p2 w9 hown' hg'; have r4 := hX9.cell 4; have v4 := hX9.frozen 4; simp only [List.getElem?_toArray, List.getElem?_cons_zero, List.getElem?_cons_succ] at r4))
            all_goals
              refine ⟨P2, p2, rfl, ?_, ?_, ?_⟩
              · simpa using hX9.set_ 4 (.slice P2 (L.length + 1) p2)
              · exact hO9.far (p := ⟨g, 4, none⟩) (fun hi => by have := (hO9.block hi).1; simp only at this; omega) _
              · exact hc9.setCell (fun _ => rfl) _
          · clear hXa Ba hOa hca hza hg7 hz7 t0 t1 t2 t3 t4 q0 q1 q2 q3 q4 b0 b1 b2 b3 b4 b5 c0 c1 c2 c3 c4 c5
            intro P2 p2 w9 hW9
            obtain ⟨hX9, hO9, hc9⟩ := hW9
            go_wp2_with fail
            go_roundw
            case rel => exact ⟨k + 1, P2, p2, by omega, by go_num, by rw [hstep.out, List.length_append]; exact hX9, by rw [hstep.out]; exact hO9, hc9⟩
            case measure => simp [intOf]; omega
        · obtain rfl : k = l.length := by omega
          have hlti : ¬ (l.length : Int) < (l.length : Int) := by omega
          rw [List.take_length] at hX hO
          go_wp2_with fail
          go_end0
          exact ⟨rfl, ⟨P1, p1, hX, hO⟩, hc⟩
end Go.Proofs.Ytkpkjpdhlmjchaa
