/- policy: the law PolicyPicks, called: a policy that may not be. -/
import Derived.Test.YtkpkjpdhlmjchaaPolM
namespace Go.Proofs.Ytkpkjpdhlmjchaa
open Go Go.RowKit Go.Deep

theorem pk_at {w : World} {B : Nat} {A : Option Addr} {l : List Pk} (h : Reads w B 15 A l.length (l.flatMap Pk.cells)) {k : Nat} (hk : k < l.length) :
    ∃ ad s, A = some ad ∧ ad.block < B ∧ l[k]? = some s ∧ ∀ j u, (Pk.cells s)[j]? = some u → w.cell? ((ad.add (k * 15)).add j) = some u := by
  obtain ⟨ad, rfl, hb, hc⟩ := h.rec_at Pk.cells (fun _ => rfl) hk
  exact ⟨ad, l[k], rfl, hb, List.getElem?_eq_getElem hk, hc⟩
set_option maxRecDepth 100000 in
set_option maxHeartbeats 16000000 in
theorem policyPicks_bad (k s ka kb : Int) (la lb : List Bk) (Aa Ab : Option Addr) (ca cb : Nat) (v v' : Int) (ps : List Pk) (P : Option Addr) (pc : Nat) (w : World) (hp : polOk k s = false)
    (hra : Reads w w.heap.size 6 Aa la.length (la.flatMap Bk.cells)) (hla : la.length ≤ 9223372036854775807) (hrb : Reads w w.heap.size 6 Ab lb.length (lb.flatMap Bk.cells)) (hlb : lb.length ≤ 9223372036854775807) :
    Calls Try.prog 8 #[.agg #[.int .i64 k, .int .i64 s], .agg #[.int .u64 ka, .int .u64 kb], .slice Aa la.length ca, .slice Ab lb.length cb, .int .i64 v, .int .i64 v', .slice P ps.length pc] w fun e w' => e = .returned (.bool true) ∧ Below w.heap.size w w' := by
  obtain ⟨w0, hw0⟩ : ∃ w0, w0 = (w.alloc (.cells #[.int .i64 k, .int .i64 s] 80)).alloc (.cells #[.int .u64 ka, .int .u64 kb] 25) := ⟨_, rfl⟩
  have hb0 : Below w.heap.size w w0 := hw0 ▸ below_alloc (below_alloc (Below.refl _ _) _) _
  have P0 : Blk w0 w.heap.size 80 #[.int .i64 k, .int .i64 s] := hw0 ▸ (Blk.new w _ _).alloc _
  have K0 : Blk w0 (w.heap.size + 1) 25 #[.int .u64 ka, .int .u64 kb] := by
    have := Blk.new (w.alloc (.cells #[.int .i64 k, .int .i64 s] 80)) 25 #[.int .u64 ka, .int .u64 kb]
    rw [← hw0] at this
    simpa using this
  have RA := law30_right la Aa ca w0 ((hra.below hb0).more hb0.size) hla
  have RB := fun W (hb : Below w.heap.size w W) => law30_right lb Ab cb W ((hrb.below hb).more hb.size) hlb
  have RR := fun W => refpolright_any k s W
  have PR := fun W => polright_any k s W
  have NB := fun W => polnew_bad k s ka kb W hp
  have RN := fun W => refpolnew_bad k s ka kb W hp
  rw [hp] at RR PR
  replace RA := Lib.hid RA
  replace RB := Lib.hid RB
  replace RR := Lib.hid RR
  replace PR := Lib.hid PR
  replace NB := Lib.hid NB
  replace RN := Lib.hid RN
  clear hra hrb hp
  go_enter Try.func8, Try.ntmps8
  go_wp2_with fail
  rw [← hw0]
  clear hw0
  refine RA.out.mono ?_
  rintro e w1 ⟨ra, n1, rfl, rfl, -⟩
  have hb1 := below_drewN hb0 n1
  have P1 : Blk (w0.drewN n1) w.heap.size 80 #[.int .i64 k, .int .i64 s] := P0
  have K1 : Blk (w0.drewN n1) (w.heap.size + 1) 25 #[.int .u64 ka, .int .u64 kb] := K0
  clear hb0 P0 K0 RA
  generalize w0.drewN n1 = w1 at *
  cases ra
  · go_wp2_with fail
    refine (awake30 _).mono ?_
    rintro e w2 ⟨rfl, hb2⟩
    have hb3 := below_chain hb2 hb1
    go_wp2_with fail
    go_ret
    exact ⟨rfl, hb3⟩
  go_wp2_with fail
  refine (RB.out _ hb1).mono ?_
  rintro e w2 ⟨rb, n2, rfl, rfl, -⟩
  have hb2 := below_drewN hb1 n2
  have P2 : Blk (w1.drewN n2) w.heap.size 80 #[.int .i64 k, .int .i64 s] := P1
  have K2 : Blk (w1.drewN n2) (w.heap.size + 1) 25 #[.int .u64 ka, .int .u64 kb] := K1
  clear hb1 P1 K1 RB
  generalize w1.drewN n2 = w2 at *
  cases rb
  · go_wp2_with fail
    refine (awake30 _).mono ?_
    rintro e w3 ⟨rfl, hb3⟩
    have hb4 := below_chain hb3 hb2
    go_wp2_with fail
    go_ret
    exact ⟨rfl, hb4⟩
  by_cases hn : (30 : Int) < (ps.length : Int)
  · have hd : decide ((30 : Int) < (ps.length : Int)) = true := by simpa using hn
    go_wp2_with fail
    refine (awake30 _).mono ?_
    rintro e w3 ⟨rfl, hb3⟩
    have hb4 := below_chain hb3 hb2
    go_wp2_with fail
    go_ret
    exact ⟨rfl, hb4⟩
  have hd : decide ((30 : Int) < (ps.length : Int)) = false := by simpa using hn
  have p0 := P2.cell 0
  have p1 := P2.cell 1
  simp only [List.getElem?_toArray, List.getElem?_cons_zero, List.getElem?_cons_succ] at p0 p1
  go_wp2_with fail
  refine (RR.out _).mono ?_
  rintro e w3 ⟨rfl, hb3⟩
  have P3 := P2.call hb3
  have K3 := K2.call hb3
  have hb4 := below_chain hb3 hb2
  clear P2 K2 p0 p1 hb2 hb3
  have p0 := P3.cell 0
  have p1 := P3.cell 1
  have k0 := K3.cell 0
  have k1 := K3.cell 1
  simp only [List.getElem?_toArray, List.getElem?_cons_zero, List.getElem?_cons_succ] at p0 p1 k0 k1
  go_wp2_with fail
  refine (NB.out _).mono ?_
  rintro e w4 ⟨rfl, hb5⟩
  have P4 := P3.call hb5
  have K4 := K3.call hb5
  have hb6 := below_chain hb5 hb4
  clear P3 K3 p0 p1 k0 k1 hb4 hb5 NB
  have p0 := P4.cell 0
  have p1 := P4.cell 1
  have k0 := K4.cell 0
  have k1 := K4.cell 1
  simp only [List.getElem?_toArray, List.getElem?_cons_zero, List.getElem?_cons_succ] at p0 p1 k0 k1
  go_wp2_with fail
  refine (RN.out _).mono ?_
  rintro e w5 ⟨rfl, hb7⟩
  have P5 := P4.call hb7
  have hb8 := below_chain hb7 hb6
  clear P4 K4 p0 p1 k0 k1 hb6 hb7 RN
  have p0 := P5.cell 0
  have p1 := P5.cell 1
  simp only [List.getElem?_toArray, List.getElem?_cons_zero, List.getElem?_cons_succ] at p0 p1
  go_wp2_with fail
  go_region_held3 (fun W => Below w5.heap.size w5 W ∧ W.cell? ⟨w.heap.size, 0, none⟩ = some (.int .i64 k) ∧ W.cell? ⟨w.heap.size, 1, none⟩ = some (.int .i64 s)) ((first | assumption | ((refine ⟨?_, ?_⟩; (first | assumption | exact (Below.refl _ _).drew | exact Below.refl _ _); go_keep)))) (first
    | (go_at_call 45; (with_reducible refine (PR.out _).mono ?_); rintro e w6 ⟨rfl, hb9⟩; have hS := hold2 (by assumption) hb9)
    | (go_at_call 38; (with_reducible refine (RR.out _).mono ?_); rintro e w6 ⟨rfl, hb9⟩; have hS := hold2 (by assumption) hb9))
  all_goals
    have hb10 : Below w.heap.size w w6 := below_chain hS.1 hb8
    clear p0 p1 P5 hb8 hS hb9 RR PR
    go_wp2_with fail
    refine (load_new _).mono ?_
    rintro e w7 ⟨gl, bl, rfl, -, -, -, hb11⟩
    have hb12 := below_chain hb11 hb10
    clear hb10 hb11
    go_wp2_with fail
    have hb13 := below_alloc hb12 (.cells #[.slice none 0 0, .slice none 0 0] 98)
    generalize w7.alloc (.cells #[.slice none 0 0, .slice none 0 0] 98) = w8 at *
    clear hb12
    go_loopw [20] (fun i wr => i = .int .i64 0 ∧ Below w.heap.size w wr) (fun _ _ => 0)
    case atStart => exact ⟨rfl, hb13⟩
    case round =>
      obtain ⟨rfl, hb⟩ := hrel
      clear hb13
      go_wp2_with fail
      all_goals
        refine (awake30 _).mono ?_
        rintro e w9 ⟨rfl, hb14⟩
        have hb15 := below_chain hb14 hb
        go_wp2_with fail
        go_ret
        exact ⟨rfl, hb15⟩
end Go.Proofs.Ytkpkjpdhlmjchaa
