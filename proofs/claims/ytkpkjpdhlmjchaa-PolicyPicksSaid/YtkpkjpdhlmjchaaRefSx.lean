/- swrr: the document's turner, inside the document's chooser (its cells 4 to 7). swrr: the document's turner at a new version. -/
import Derived.Test.YtkpkjpdhlmjchaaSwE
import Derived.Test.YtkpkjpdhlmjchaaMagJ
namespace Go.Proofs.Ytkpkjpdhlmjchaa
open Go Go.RowKit Go.Deep

def nums (ts : List Trn) : List Int := ts.map (·.2)
theorem nums_len (ts : List Trn) : (nums ts).length = ts.length := by simp [nums]
theorem nums_at (ts : List Trn) (k : Nat) (x : Trn) (h : ts[k]? = some x) : (nums ts).getD k 0 = x.2 := by
  unfold nums
  rw [List.getD_eq_getElem?_getD, List.getElem?_map, h]
  rfl
theorem nums_step (ts : List Trn) (k : Nat) (x : Trn) (h : ts[k]? = some x) : nums (addN ts (k + 1)) = (nums (addN ts k)).set k (x.2 + x.1.w) := by
  rw [addN_succ ts k x h]
  unfold nums
  rw [List.map_set]
theorem addN_lt (ts : List Trn) (k j : Nat) (h : j < k) (hk : k ≤ ts.length) : (addN ts k)[j]? = (addT ts)[j]? := by
  unfold addN addT
  rw [List.getElem?_append_left (by rw [List.length_map, List.length_take]; omega), List.getElem?_map, List.getElem?_map, List.getElem?_take_of_lt h]
theorem bestN_le (us : List Trn) : ∀ k, bestN us (k + 1) ≤ k
  | 0 => by simp [bestN]
  | k + 1 => by
    have ih := bestN_le us k
    show (if (us.getD (bestN us (k + 1)) trn0).2 < (us.getD (k + 1) trn0).2 then k + 1 else bestN us (k + 1)) ≤ k + 1
    split <;> omega
theorem addT_at (ts : List Trn) (k : Nat) (x : Trn) (h : ts[k]? = some x) : (addT ts)[k]? = some (x.1, x.2 + x.1.w) := by
  unfold addT
  rw [List.getElem?_map, h]
  rfl
/-- The cells of the document's chooser. -/
abbrev rch (k s ka kb : Int) (so : Bool) (ver : Int) (L N : Value) (ho : Bool) (hv : Int) (P : Value) : Array Value := #[.int .i64 k, .int .i64 s, .int .u64 ka, .int .u64 kb, .bool so, .int .i64 ver, L, N, .bool ho, .int .i64 hv, P]
abbrev RChBlk (w : World) (g : Nat) (k s ka kb : Int) (so : Bool) (ver : Int) (L N : Value) (ho : Bool) (hv : Int) (P : Value) : Prop := Blk w g 108 (rch k s ka kb so ver L N ho hv P)
theorem rch_ne {w : World} {g gN m : Nat} {pl : List Int} {cs : Array Value} (h : Blk w g 108 cs) (hN : PlAt w gN m pl) : ¬ gN = g := by
  obtain ⟨c, hc, -⟩ := hN
  exact Blk.ne_ (t := 3) (cs := c) hc h (by decide)
theorem plat_set {w : World} {g m k : Nat} {pl : List Int} (h : PlAt w g m pl) (hk : k < pl.length) (v : Int) : PlAt (w.setCell ⟨g, k, none⟩ (.int .i64 v)) g m (pl.set k v) :=
  (h.set k (.int .i64 v)).congr fun p _ => by
    rw [getD_set_if _ _ _ _ hk]
    split <;> rfl
theorem us_at {ts us : List Trn} {l : List Bk} {m : Nat} {y : Trn} {b : Bk} (hus : addT ts = us) (hts : ts.map (·.1) = l) (hy : us[m]? = some y) (hbk : l[m]? = some b) : ∃ x, ts[m]? = some x ∧ x.1 = b ∧ y = (x.1, x.2 + x.1.w) := by
  subst hus hts
  unfold addT at hy
  rw [List.getElem?_map] at hy hbk
  cases hx : ts[m]? with
  | none => rw [hx] at hy; simp at hy
  | some x =>
    rw [hx] at hy hbk
    simp at hy hbk
    exact ⟨x, rfl, hbk, hy.symm⟩
def bestZ (us : List Trn) (k : Nat) : Int := if k = 0 then -1 else (bestN us k : Nat)
set_option maxRecDepth 100000 in
set_option maxHeartbeats 8000000 in
theorem refturn_same {w : World} {g gN : Nat} {k s ka kb ver hv : Int} {ho : Bool} {Pv : Value} (ts : List Trn) (l : List Bk) (hts : ts.map (·.1) = l) (A : Option Addr) (c : Nat) (B : Option Addr) (bn bc : Nat)
    (h : RChBlk w g k s ka kb true ver (.slice A l.length c) (.slice (some ⟨gN, 0, none⟩) l.length l.length) ho hv Pv) (hN : PlAt w gN l.length (nums ts)) (hr : Reads w w.heap.size 6 A l.length (l.flatMap Bk.cells)) (hA : ∀ a, A = some a → ¬ a.block = gN)
    (h0 : 0 < l.length) (hl : l.length ≤ 1000) (hn : ∀ x ∈ ts, -1000000000000 ≤ x.2 ∧ x.2 ≤ 1000000000000 ∧ 0 ≤ x.1.w ∧ x.1.w ≤ 1000) :
    Calls Try.prog 93 #[.pointer (some ⟨g, 4, none⟩), .int .i64 ver, .slice B bn bc] w fun e w' => e = .returned (.tuple #[.int .i64 (pickId ts), .bool true]) ∧ PlAt w' gN l.length (nums (pickTs (sumW l) ts)) ∧ Chg (· = gN) w w' := by
  have htl : ts.length = l.length := by rw [← hts, List.length_map]
  have hgN := rch_ne h hN
  obtain ⟨us, hus⟩ : ∃ us, addT ts = us := ⟨_, rfl⟩
  have c4 := h.cell 4
  have c5 := h.cell 5
  have c6 := h.cell 6
  simp only [List.getElem?_toArray, List.getElem?_cons_zero, List.getElem?_cons_succ] at c4 c5 c6
  have hvb : (ver != ver) = false := by simp
  replace hts := Lib.hid hts
  replace hn := Lib.hid hn
  replace hus := Lib.hid hus
  replace hr := Lib.hid hr
  replace hA := Lib.hid hA
  replace h := Lib.hid h
  obtain ⟨PI, hPI⟩ : ∃ PI, pickId ts = PI := ⟨_, rfl⟩
  obtain ⟨PT, hPT⟩ : ∃ PT, nums (pickTs (sumW l) ts) = PT := ⟨_, rfl⟩
  rw [hPI, hPT]
  replace hPI := Lib.hid hPI
  replace hPT := Lib.hid hPT
  go_enter Try.func93, Try.ntmps93
  go_wp2_with fail
  go_loopw [8, 9, 10, 11, 12] (fun al be i _ _ wr => ∃ q : Nat, q ≤ l.length ∧ i = .int .i64 (q : Nat) ∧ al = .int .i64 (sumW (l.take q)) ∧ be = .int .i64 (bestZ us q) ∧ PlAt wr gN l.length (nums (addN ts q)) ∧ Chg (· = gN) w wr) (fun _ _ i _ _ _ => l.length - (intOf i).toNat)
  case atStart => exact ⟨0, by omega, rfl, by simp [sumW], rfl, by rw [addN_zero]; exact hN, Chg.refl _ _⟩
  case round =>
    obtain ⟨q, hq, rfl, rfl, rfl, hNr, hcr⟩ := hrel
    have hXr := Blk.chg h.out hcr (fun e => hgN e.symm)
    have hrr := reads_chg hr.out (Nat.le_refl _) hA.out hcr
    have c6 := hXr.cell 6
    have c7 := hXr.cell 7
    simp only [List.getElem?_toArray, List.getElem?_cons_zero, List.getElem?_cons_succ] at c6 c7
    by_cases hlt : q < l.length
    · have hlti : (q : Int) < (l.length : Int) := by omega
      obtain ⟨ad, b, rfl, hbl, hbk, c0, c1, -, -, -, -⟩ := bk_at hrr hlt
      obtain ⟨x, hx⟩ : ∃ x, ts[q]? = some x := ⟨_, List.getElem?_eq_getElem (by omega)⟩
      have hxb : x.1 = b := by rw [← hts.out, List.getElem?_map, hx] at hbk; simpa using hbk
      have d0 := hNr.cell (show q < l.length from hlt)
      rw [nums_at _ _ _ (addN_at ts q x hx)] at d0
      have hNn := plat_set hNr (k := q) (by rw [nums_len, addN_len _ _ (by omega)]; omega) (x.2 + x.1.w)
      rw [← nums_step ts q x hx] at hNn
      have hcn := hcr.setCell (p := ⟨gN, q, none⟩) (fun _ => rfl) (.int .i64 (x.2 + x.1.w))
      have f0 := hNr.frozen q
      obtain ⟨b1, b2, b3, b4⟩ := hn.out x (List.mem_of_getElem? hx)
      rw [hxb] at hNn hcn b3 b4
      have hXn : RChBlk (wr.setCell ⟨gN, q, none⟩ (.int .i64 (x.2 + b.w))) g k s ka kb true ver (.slice (some ad) l.length c) (.slice (some ⟨gN, 0, none⟩) l.length l.length) ho hv Pv := Blk.far hXr (p := ⟨gN, q, none⟩) (fun e => hgN e.symm) _
      have hux : us[q]? = some (x.1, x.2 + b.w) := by rw [← hus.out, addT_at ts q x hx, hxb]
      have eux : us.getD q trn0 = (x.1, x.2 + b.w) := by rw [List.getD_eq_getElem?_getD, hux]; rfl
      have dq := hNn.cell hlt
      rw [nums_at _ _ _ ((addN_lt ts (q + 1) q (by omega) (by omega)).trans (by rw [hus.out]; exact hux))] at dq
      dsimp only at dq
      have hlw : ∀ z ∈ l, 0 ≤ z.w ∧ z.w ≤ 1000 := by
        intro z hz
        rw [← hts.out] at hz
        obtain ⟨y, hy, rfl⟩ := List.mem_map.1 hz
        have := hn.out y hy
        exact ⟨this.2.2.1, this.2.2.2⟩
      obtain ⟨a1, a2⟩ := sumW_bd l hlw q hq
      have a3 := sumW_take l q b hbk
      have g1 : IntKind.i64.wrap (x.2 + b.w) = x.2 + b.w := i64_id _ (by omega)
      have g2 : IntKind.i64.wrap (sumW (l.take q) + b.w) = sumW (l.take q) + b.w := i64_id _ (by omega)
      have hbs : bestN us (q + 1) = if (us.getD (bestN us q) trn0).2 < (us.getD q trn0).2 then q else bestN us q := rfl
      rw [eux] at hbs
      dsimp only at hbs
      have z1 : bestZ us (q + 1) = (bestN us (q + 1) : Nat) := by unfold bestZ; rw [if_neg (by omega)]
      generalize sumW (l.take q) = sm at *
      obtain ⟨xv, hxv⟩ : ∃ xv, x.2 = xv := ⟨_, rfl⟩
      rw [hxv] at d0 hNn hcn hXn hux eux dq g1 hbs b1 b2
      obtain ⟨bi, bw, bst, bv, bh, bo⟩ := b
      dsimp only at *
      replace a3 := Lib.hid a3
      replace hx := Lib.hid hx
      replace hxb := Lib.hid hxb
      replace hxv := Lib.hid hxv
      replace hbk := Lib.hid hbk
      replace hlw := Lib.hid hlw
      replace hux := Lib.hid hux
      replace eux := Lib.hid eux
      replace hNn := Lib.hid hNn
      replace hXn := Lib.hid hXn
      replace hcn := Lib.hid hcn
      replace dq := Lib.hid dq
      replace z1 := Lib.hid z1
      clear hrr hXr hNr hN
      go_wp2_with fail
      go_quiet (fail)
      rename_i nq
      have c7' : (wr.drewN nq).cell? ⟨g, 7, none⟩ = some (.slice (some ⟨gN, 0, none⟩) l.length l.length) := c7
      have f0' : (wr.drewN nq).frozen? ⟨gN, q, none⟩ = false := f0
      have d0' : (wr.drewN nq).cell? ⟨gN, q, none⟩ = some (.int .i64 xv) := d0
      have hX9 : RChBlk ((wr.drewN nq).setCell ⟨gN, q, none⟩ (.int .i64 (xv + bw))) g k s ka kb true ver (.slice (some ad) l.length c) (.slice (some ⟨gN, 0, none⟩) l.length l.length) ho hv Pv := hXn.out
      have hN9 : PlAt ((wr.drewN nq).setCell ⟨gN, q, none⟩ (.int .i64 (xv + bw))) gN l.length (nums (addN ts (q + 1))) := hNn.out
      have hc9 := (hcr.drewN nq).setCell (p := ⟨gN, q, none⟩) (fun _ => rfl) (.int .i64 (xv + bw))
      clear c6 c7 c0 c1 d0 f0 hcr hcn hXn hNn dq
      go_wp2_with fail
      generalize (wr.drewN nq).setCell ⟨gN, q, none⟩ (.int .i64 (xv + bw)) = w9 at *
      have c7 := hX9.cell 7
      simp only [List.getElem?_toArray, List.getElem?_cons_zero, List.getElem?_cons_succ] at c7
      have dq := hN9.cell hlt
      rw [nums_at _ _ _ ((addN_lt ts (q + 1) q (by omega) (by omega)).trans (by rw [hus.out]; exact hux.out))] at dq
      dsimp only at dq
      clear c7' f0' d0' g1 g2
      by_cases hq0 : q = 0
      · have ez : bestZ us q = -1 := by unfold bestZ; rw [if_pos hq0]
        have eb : bestN us (q + 1) = q := by have := bestN_le us q; omega
        rw [ez]
        replace hq0 := Lib.hid hq0
        replace hbs := Lib.hid hbs
        replace eb := Lib.hid eb
        clear ez dq
        go_quiet (fail)
        have hN10 : PlAt (w9.drewN nq) gN l.length (nums (addN ts (q + 1))) := hN9
        have hc10 := hc9.drewN nq
        clear hN9 hc9 hX9 c7
        generalize w9.drewN nq = w10 at *
        go_wp2_with fail
        go_roundw
        case rel => exact ⟨q + 1, by omega, by go_num, by rw [a3.out], by rw [z1.out, eb.out], hN10, hc10⟩
        case measure => simp [intOf]; omega
      · have ez : bestZ us q = (bestN us q : Nat) := by unfold bestZ; rw [if_neg hq0]
        have hml : bestN us q < q := by have := bestN_le us (q - 1); rw [show q - 1 + 1 = q by omega] at this; omega
        obtain ⟨y, hy⟩ : ∃ y, us[bestN us q]? = some y := ⟨_, List.getElem?_eq_getElem (by have := addT_len ts; rw [hus.out] at this; omega)⟩
        have ey : us.getD (bestN us q) trn0 = y := by rw [List.getD_eq_getElem?_getD, hy]; rfl
        rw [ey] at hbs
        have dm := hN9.cell (show bestN us q < l.length by omega)
        rw [nums_at _ _ _ ((addN_lt ts (q + 1) (bestN us q) (by omega) (by omega)).trans (by rw [hus.out]; exact hy))] at dm
        rw [ez]
        generalize bestN us q = m at *
        obtain ⟨yb, yn⟩ := y
        dsimp only at *
        have m1 : decide ((m : Int) < 0) = false := by simp
        have m2 : (m : Int) < (l.length : Int) := by omega
        have m3 : (0 : Int) ≤ (m : Int) := by omega
        replace hy := Lib.hid hy
        replace ey := Lib.hid ey
        by_cases hg : yn < xv + bw
        · have hgt : decide (yn < xv + bw) = true := by simpa using hg
          rw [if_pos hg] at hbs
          replace hbs := Lib.hid hbs
          clear hg ez
          go_quiet (fail)
          have hN10 : PlAt (w9.drewN nq) gN l.length (nums (addN ts (q + 1))) := hN9
          have hc10 := hc9.drewN nq
          clear hN9 hc9 hX9 c7 dq dm
          generalize w9.drewN nq = w10 at *
          go_wp2_with fail
          go_roundw
          case rel => exact ⟨q + 1, by omega, by go_num, by rw [a3.out], by rw [z1.out, hbs.out], hN10, hc10⟩
          case measure => simp [intOf]; omega
        · have hgt : decide (yn < xv + bw) = false := by simpa using hg
          rw [if_neg hg] at hbs
          replace hbs := Lib.hid hbs
          clear hg ez
          go_quiet (fail)
          have hN10 : PlAt (w9.drewN nq) gN l.length (nums (addN ts (q + 1))) := hN9
          have hc10 := hc9.drewN nq
          clear hN9 hc9 hX9 c7 dq dm
          generalize w9.drewN nq = w10 at *
          go_wp2_with fail
          go_roundw
          case rel => exact ⟨q + 1, by omega, by go_num, by rw [a3.out], by rw [z1.out, hbs.out], hN10, hc10⟩
          case measure => simp [intOf]; omega
    · obtain rfl : q = l.length := by omega
      have hlti : ¬ (l.length : Int) < (l.length : Int) := by omega
      have e9 : addN ts l.length = us := by rw [← htl, addN_all, hus.out]
      rw [e9] at hNr
      have hul : us.length = l.length := by rw [← hus.out, addT_len, htl]
      have ez : bestZ us l.length = (bestN us l.length : Nat) := by unfold bestZ; rw [if_neg (by omega)]
      have hml : bestN us l.length < l.length := by have := bestN_lt us (by omega) l.length (by omega); omega
      rw [ez, List.take_length]
      have hbI : bestI ts = bestN us l.length := by unfold bestI; rw [hus.out, htl]
      obtain ⟨y, hy⟩ : ∃ y, us[bestN us l.length]? = some y := ⟨_, List.getElem?_eq_getElem (by omega)⟩
      have ey : us.getD (bestN us l.length) trn0 = y := by rw [List.getD_eq_getElem?_getD, hy]; rfl
      obtain ⟨ad, b, rfl, hbl, hbk, c0, c1, -, -, -, -⟩ := bk_at hrr hml
      have hyb : y.1 = b ∧ -1000000001000 ≤ y.2 ∧ y.2 ≤ 1000000001000 := by
        obtain ⟨x, hx, h1, rfl⟩ := us_at hus.out hts.out hy hbk
        have := hn.out x (List.mem_of_getElem? hx)
        exact ⟨h1, by dsimp only; omega, by dsimp only; omega⟩
      have e1 : PI = b.id := by rw [← hPI.out]; unfold pickId; rw [if_neg (by omega), hbI, hus.out, ey, hyb.1]
      have e3 : PT = (nums us).set (bestN us l.length) (y.2 - sumW l) := by
        rw [← hPT.out]
        unfold pickTs
        rw [if_neg (by omega), hbI, hus.out, ey]
        unfold nums
        rw [List.map_set]
      have dm := hNr.cell hml
      rw [nums_at _ _ _ hy] at dm
      have hNn := plat_set hNr (k := bestN us l.length) (by rw [nums_len]; omega) (y.2 - sumW l)
      rw [← e3] at hNn
      have hcn := hcr.setCell (p := ⟨gN, bestN us l.length, none⟩) (fun _ => rfl) (.int .i64 (y.2 - sumW l))
      have f0 := hNr.frozen (bestN us l.length)
      obtain ⟨ad2, b2, e2, -, hbk2, c0n, -, -, -, -, -⟩ := bk_at (reads_chg hr.out (Nat.le_refl _) hA.out hcn) hml
      rw [hbk] at hbk2
      obtain rfl : ad = ad2 := by simpa using e2
      obtain rfl : b = b2 := by simpa using hbk2
      have hlw : ∀ z ∈ l, 0 ≤ z.w ∧ z.w ≤ 1000 := by
        intro z hz
        rw [← hts.out] at hz
        obtain ⟨x, hx, rfl⟩ := List.mem_map.1 hz
        have := hn.out x hx
        exact ⟨this.2.2.1, this.2.2.2⟩
      obtain ⟨a1, a2⟩ := sumW_bd l hlw l.length (Nat.le_refl _)
      rw [List.take_length] at a1 a2
      have g1 : IntKind.i64.wrap (y.2 - sumW l) = y.2 - sumW l := i64_id _ (by omega)
      generalize bestN us l.length = m at *
      have m1 : decide ((m : Int) < 0) = false := by simp
      have m2 : (m : Int) < (l.length : Int) := by omega
      have m3 : (0 : Int) ≤ (m : Int) := by omega
      obtain ⟨yb, yn⟩ := y
      obtain ⟨bi, bw, bst, bv, bh, bo⟩ := b
      dsimp only at *
      generalize sumW l = sm at *
      clear ey hy hyb hbI ez e9 e3 hbk hlw hrr hN
      replace e1 := Lib.hid e1
      replace hNn := Lib.hid hNn
      replace hcn := Lib.hid hcn
      go_wp2_with fail
      go_ret2
      exact ⟨by rw [e1.out]; rfl, hNn.out, hcn.out⟩
end Go.Proofs.Ytkpkjpdhlmjchaa

namespace Go.Proofs.Ytkpkjpdhlmjchaa
open Go Go.RowKit Go.Deep

theorem zeroT_fst (l : List Bk) : (zeroT l).map (·.1) = l := by
  unfold zeroT
  rw [List.map_map]
  exact List.map_id' l
theorem zeroT_nums (l : List Bk) : nums (zeroT l) = List.replicate l.length 0 := by
  unfold nums zeroT
  rw [List.map_map, List.eq_replicate_iff]
  refine ⟨by simp, fun x hx => ?_⟩
  obtain ⟨b, -, rfl⟩ := List.mem_map.1 hx
  rfl
set_option maxRecDepth 100000 in
set_option maxHeartbeats 8000000 in
theorem refturn_new {w : World} {g : Nat} {k s ka kb v0 hv : Int} {L N : Value} {ho : Bool} {Pv : Value} (ver : Int) (l : List Bk) (A : Option Addr) (c : Nat) 
    (h : RChBlk w g k s ka kb false v0 L N ho hv Pv) (hr : Reads w w.heap.size 6 A l.length (l.flatMap Bk.cells)) (hAg : ∀ a, A = some a → ¬ a.block = g)
    (h0 : 0 < l.length) (hl : l.length ≤ 1000) (hw : ∀ b ∈ l, 0 ≤ b.w ∧ b.w ≤ 1000) :
    Calls Try.prog 93 #[.pointer (some ⟨g, 4, none⟩), .int .i64 ver, .slice A l.length c] w fun e w' => e = .returned (.tuple #[.int .i64 (pickId (zeroT l)), .bool true]) ∧ (∃ gN, w.heap.size ≤ gN ∧ RChBlk w' g k s ka kb true ver (.slice A l.length c) (.slice (some ⟨gN, 0, none⟩) l.length l.length) ho hv Pv ∧ PlAt w' gN l.length (nums (pickTs (sumW l) (zeroT l)))) ∧ Chg (· = g) w w' := by
  obtain ⟨ts, hts0⟩ : ∃ ts, zeroT l = ts := ⟨_, rfl⟩
  have hz := zeroT_nums l
  have hts := zeroT_fst l
  have hn : ∀ x ∈ zeroT l, -1000000000000 ≤ x.2 ∧ x.2 ≤ 1000000000000 ∧ 0 ≤ x.1.w ∧ x.1.w ≤ 1000 := by
    intro x hx
    unfold zeroT at hx
    obtain ⟨b, hb, rfl⟩ := List.mem_map.1 hx
    have := hw b hb
    exact ⟨by dsimp only; omega, by dsimp only; omega, this.1, this.2⟩
  rw [hts0] at hz hts hn ⊢
  have htl : ts.length = l.length := by rw [← hts, List.length_map]
  obtain ⟨us, hus⟩ : ∃ us, addT ts = us := ⟨_, rfl⟩
  have hmk := run_make_row' (P := Try.prog) 66 3 (.int .i64 0) 8 Try.underlying66 info_int rfl .i64 .i64 l.length (by omega) (by omega)
  have c4 := h.cell 4
  have c5 := h.cell 5
  have f4 := h.frozen 4
  have f5 := h.frozen 5
  have f6 := h.frozen 6
  have c6 := h.cell 6
  have C3 : RChBlk (((w.setCell ⟨g, 4, none⟩ (.bool true)).setCell ⟨g, 5, none⟩ (.int .i64 ver)).setCell ⟨g, 6, none⟩ (.slice A l.length c)) g k s ka kb true ver (.slice A l.length c) N ho hv Pv := by
    simpa using ((Blk.set_ h 4 (.bool true)).set_ 5 (.int .i64 ver)).set_ 6 (.slice A l.length c)
  have C4 := Blk.alloc C3 (.cells (madeCells #[.int .i64 0] l.length) 3)
  have N4 := World.rowIs_made (((w.setCell ⟨g, 4, none⟩ (.bool true)).setCell ⟨g, 5, none⟩ (.int .i64 ver)).setCell ⟨g, 6, none⟩ (.slice A l.length c)) (.int .i64 0) l.length 3
  have z3 : (((w.setCell ⟨g, 4, none⟩ (.bool true)).setCell ⟨g, 5, none⟩ (.int .i64 ver)).setCell ⟨g, 6, none⟩ (.slice A l.length c)).heap.size = w.heap.size := by simp
  rw [z3] at N4
  have N4' : PlAt ((((w.setCell ⟨g, 4, none⟩ (.bool true)).setCell ⟨g, 5, none⟩ (.int .i64 ver)).setCell ⟨g, 6, none⟩ (.slice A l.length c)).alloc (.cells (madeCells #[.int .i64 0] l.length) 3)) w.heap.size l.length (nums ts) := N4.congr fun p hp => by rw [hz]; simp [List.getD_eq_getElem?_getD, hp]
  have hc3 := ((((Chg.refl (· = g) w).setCell (p := ⟨g, 4, none⟩) (fun _ => rfl) (.bool true)).setCell (p := ⟨g, 5, none⟩) (fun _ => rfl) (.int .i64 ver)).setCell (p := ⟨g, 6, none⟩) (fun _ => rfl) (.slice A l.length c)).alloc (.cells (madeCells #[.int .i64 0] l.length) 3)
  clear N4
  have c7 := C4.cell 7
  have f7 := C4.frozen 7
  obtain ⟨w4, hw4⟩ : ∃ w4, w4 = (((w.setCell ⟨g, 4, none⟩ (.bool true)).setCell ⟨g, 5, none⟩ (.int .i64 ver)).setCell ⟨g, 6, none⟩ (.slice A l.length c)).alloc (.cells (madeCells #[.int .i64 0] l.length) 3) := ⟨_, rfl⟩
  rw [← hw4] at C4 N4' hc3
  have hgN := rch_ne C4 N4'
  have hN5 := N4'.setOther (a := ⟨g, 7, none⟩) hgN (.slice (some ⟨w.heap.size, 0, none⟩) l.length l.length)
  have C5 : RChBlk (w4.setCell ⟨g, 7, none⟩ (.slice (some ⟨w.heap.size, 0, none⟩) l.length l.length)) g k s ka kb true ver (.slice A l.length c) (.slice (some ⟨w.heap.size, 0, none⟩) l.length l.length) ho hv Pv := by
    simpa using C4.set_ 7 (.slice (some ⟨w.heap.size, 0, none⟩) l.length l.length)
  have hc5 := hc3.setCell (p := ⟨g, 7, none⟩) (fun _ => rfl) (.slice (some ⟨w.heap.size, 0, none⟩) l.length l.length)
  have hr5 := reads_chg hr (Nat.le_refl _) hAg hc5
  have hA : ∀ a, A = some a → ¬ a.block = w.heap.size := by
    intro a ha
    obtain ⟨ad, rfl, hb, -⟩ := hr.2 h0
    obtain rfl : ad = a := by simpa using ha
    omega
  have hsz := hc5.size
  simp only [List.getElem?_toArray, List.getElem?_cons_zero, List.getElem?_cons_succ] at c4 c5 c6 c7
  replace hts := Lib.hid hts
  replace hn := Lib.hid hn
  replace hus := Lib.hid hus
  replace hr5 := Lib.hid hr5
  replace hA := Lib.hid hA
  replace C5 := Lib.hid C5
  replace hc5 := Lib.hid hc5
  replace hN5 := Lib.hid hN5
  obtain ⟨PI, hPI⟩ : ∃ PI, pickId ts = PI := ⟨_, rfl⟩
  obtain ⟨PT, hPT⟩ : ∃ PT, nums (pickTs (sumW l) ts) = PT := ⟨_, rfl⟩
  rw [hPI, hPT]
  replace hPI := Lib.hid hPI
  replace hPT := Lib.hid hPT
  clear h hr hAg C3 C4 N4' hc3
  go_enter Try.func93, Try.ntmps93
  go_wp2_with fail
  rw [← hw4]
  clear hw4 c4 c5 c6 c7 f4 f5 f6 f7 z3
  generalize w4.setCell ⟨g, 7, none⟩ (.slice (some ⟨w.heap.size, 0, none⟩) l.length l.length) = w1 at *
  generalize hwz : w.heap.size = gN at *
  have hN := hN5.out
  have hc1 := hc5.out
  have h := C5
  have hr := hr5
  clear hN5 hc5 C5 hr5
  go_loopw [8, 9, 10, 11, 12] (fun al be i _ _ wr => ∃ q : Nat, q ≤ l.length ∧ i = .int .i64 (q : Nat) ∧ al = .int .i64 (sumW (l.take q)) ∧ be = .int .i64 (bestZ us q) ∧ PlAt wr gN l.length (nums (addN ts q)) ∧ Chg (· = gN) w1 wr) (fun _ _ i _ _ _ => l.length - (intOf i).toNat)
  case atStart => exact ⟨0, by omega, rfl, by simp [sumW], rfl, by rw [addN_zero]; exact hN, Chg.refl _ _⟩
  case round =>
    obtain ⟨q, hq, rfl, rfl, rfl, hNr, hcr⟩ := hrel
    have hXr := Blk.chg h.out hcr (fun e => hgN e.symm)
    have hrr := reads_chg hr.out hsz hA.out hcr
    have c6 := hXr.cell 6
    have c7 := hXr.cell 7
    simp only [List.getElem?_toArray, List.getElem?_cons_zero, List.getElem?_cons_succ] at c6 c7
    by_cases hlt : q < l.length
    · have hlti : (q : Int) < (l.length : Int) := by omega
      obtain ⟨ad, b, rfl, hbl, hbk, c0, c1, -, -, -, -⟩ := bk_at hrr hlt
      obtain ⟨x, hx⟩ : ∃ x, ts[q]? = some x := ⟨_, List.getElem?_eq_getElem (by omega)⟩
      have hxb : x.1 = b := by rw [← hts.out, List.getElem?_map, hx] at hbk; simpa using hbk
      have d0 := hNr.cell (show q < l.length from hlt)
      rw [nums_at _ _ _ (addN_at ts q x hx)] at d0
      have hNn := plat_set hNr (k := q) (by rw [nums_len, addN_len _ _ (by omega)]; omega) (x.2 + x.1.w)
      rw [← nums_step ts q x hx] at hNn
      have hcn := hcr.setCell (p := ⟨gN, q, none⟩) (fun _ => rfl) (.int .i64 (x.2 + x.1.w))
      have f0 := hNr.frozen q
      obtain ⟨b1, b2, b3, b4⟩ := hn.out x (List.mem_of_getElem? hx)
      rw [hxb] at hNn hcn b3 b4
      have hXn : RChBlk (wr.setCell ⟨gN, q, none⟩ (.int .i64 (x.2 + b.w))) g k s ka kb true ver (.slice (some ad) l.length c) (.slice (some ⟨gN, 0, none⟩) l.length l.length) ho hv Pv := Blk.far hXr (p := ⟨gN, q, none⟩) (fun e => hgN e.symm) _
      have hux : us[q]? = some (x.1, x.2 + b.w) := by rw [← hus.out, addT_at ts q x hx, hxb]
      have eux : us.getD q trn0 = (x.1, x.2 + b.w) := by rw [List.getD_eq_getElem?_getD, hux]; rfl
      have dq := hNn.cell hlt
      rw [nums_at _ _ _ ((addN_lt ts (q + 1) q (by omega) (by omega)).trans (by rw [hus.out]; exact hux))] at dq
      dsimp only at dq
      have hlw : ∀ z ∈ l, 0 ≤ z.w ∧ z.w ≤ 1000 := by
        intro z hz
        rw [← hts.out] at hz
        obtain ⟨y, hy, rfl⟩ := List.mem_map.1 hz
        have := hn.out y hy
        exact ⟨this.2.2.1, this.2.2.2⟩
      obtain ⟨a1, a2⟩ := sumW_bd l hlw q hq
      have a3 := sumW_take l q b hbk
      have g1 : IntKind.i64.wrap (x.2 + b.w) = x.2 + b.w := i64_id _ (by omega)
      have g2 : IntKind.i64.wrap (sumW (l.take q) + b.w) = sumW (l.take q) + b.w := i64_id _ (by omega)
      have hbs : bestN us (q + 1) = if (us.getD (bestN us q) trn0).2 < (us.getD q trn0).2 then q else bestN us q := rfl
      rw [eux] at hbs
      dsimp only at hbs
      have z1 : bestZ us (q + 1) = (bestN us (q + 1) : Nat) := by unfold bestZ; rw [if_neg (by omega)]
      generalize sumW (l.take q) = sm at *
      obtain ⟨xv, hxv⟩ : ∃ xv, x.2 = xv := ⟨_, rfl⟩
      rw [hxv] at d0 hNn hcn hXn hux eux dq g1 hbs b1 b2
      obtain ⟨bi, bw, bst, bv, bh, bo⟩ := b
      dsimp only at *
      replace a3 := Lib.hid a3
      replace hx := Lib.hid hx
      replace hxb := Lib.hid hxb
      replace hxv := Lib.hid hxv
      replace hbk := Lib.hid hbk
      replace hlw := Lib.hid hlw
      replace hux := Lib.hid hux
      replace eux := Lib.hid eux
      replace hNn := Lib.hid hNn
      replace hXn := Lib.hid hXn
      replace hcn := Lib.hid hcn
      replace dq := Lib.hid dq
      replace z1 := Lib.hid z1
      clear hrr hXr hNr hN
      go_wp2_with fail
      go_quiet (fail)
      rename_i nq
      have c7' : (wr.drewN nq).cell? ⟨g, 7, none⟩ = some (.slice (some ⟨gN, 0, none⟩) l.length l.length) := c7
      have f0' : (wr.drewN nq).frozen? ⟨gN, q, none⟩ = false := f0
      have d0' : (wr.drewN nq).cell? ⟨gN, q, none⟩ = some (.int .i64 xv) := d0
      have hX9 : RChBlk ((wr.drewN nq).setCell ⟨gN, q, none⟩ (.int .i64 (xv + bw))) g k s ka kb true ver (.slice (some ad) l.length c) (.slice (some ⟨gN, 0, none⟩) l.length l.length) ho hv Pv := hXn.out
      have hN9 : PlAt ((wr.drewN nq).setCell ⟨gN, q, none⟩ (.int .i64 (xv + bw))) gN l.length (nums (addN ts (q + 1))) := hNn.out
      have hc9 := (hcr.drewN nq).setCell (p := ⟨gN, q, none⟩) (fun _ => rfl) (.int .i64 (xv + bw))
      clear c6 c7 c0 c1 d0 f0 hcr hcn hXn hNn dq
      go_wp2_with fail
      generalize (wr.drewN nq).setCell ⟨gN, q, none⟩ (.int .i64 (xv + bw)) = w9 at *
      have c7 := hX9.cell 7
      simp only [List.getElem?_toArray, List.getElem?_cons_zero, List.getElem?_cons_succ] at c7
      have dq := hN9.cell hlt
      rw [nums_at _ _ _ ((addN_lt ts (q + 1) q (by omega) (by omega)).trans (by rw [hus.out]; exact hux.out))] at dq
      dsimp only at dq
      clear c7' f0' d0' g1 g2
      by_cases hq0 : q = 0
      · have ez : bestZ us q = -1 := by unfold bestZ; rw [if_pos hq0]
        have eb : bestN us (q + 1) = q := by have := bestN_le us q; omega
        rw [ez]
        replace hq0 := Lib.hid hq0
        replace hbs := Lib.hid hbs
        replace eb := Lib.hid eb
        clear ez dq
        go_quiet (fail)
        have hN10 : PlAt (w9.drewN nq) gN l.length (nums (addN ts (q + 1))) := hN9
        have hc10 := hc9.drewN nq
        clear hN9 hc9 hX9 c7
        generalize w9.drewN nq = w10 at *
        go_wp2_with fail
        go_roundw
        case rel => exact ⟨q + 1, by omega, by go_num, by rw [a3.out], by rw [z1.out, eb.out], hN10, hc10⟩
        case measure => simp [intOf]; omega
      · have ez : bestZ us q = (bestN us q : Nat) := by unfold bestZ; rw [if_neg hq0]
        have hml : bestN us q < q := by have := bestN_le us (q - 1); rw [show q - 1 + 1 = q by omega] at this; omega
        obtain ⟨y, hy⟩ : ∃ y, us[bestN us q]? = some y := ⟨_, List.getElem?_eq_getElem (by have := addT_len ts; rw [hus.out] at this; omega)⟩
        have ey : us.getD (bestN us q) trn0 = y := by rw [List.getD_eq_getElem?_getD, hy]; rfl
        rw [ey] at hbs
        have dm := hN9.cell (show bestN us q < l.length by omega)
        rw [nums_at _ _ _ ((addN_lt ts (q + 1) (bestN us q) (by omega) (by omega)).trans (by rw [hus.out]; exact hy))] at dm
        rw [ez]
        generalize bestN us q = m at *
        obtain ⟨yb, yn⟩ := y
        dsimp only at *
        have m1 : decide ((m : Int) < 0) = false := by simp
        have m2 : (m : Int) < (l.length : Int) := by omega
        have m3 : (0 : Int) ≤ (m : Int) := by omega
        replace hy := Lib.hid hy
        replace ey := Lib.hid ey
        by_cases hg : yn < xv + bw
        · have hgt : decide (yn < xv + bw) = true := by simpa using hg
          rw [if_pos hg] at hbs
          replace hbs := Lib.hid hbs
          clear hg ez
          go_quiet (fail)
          have hN10 : PlAt (w9.drewN nq) gN l.length (nums (addN ts (q + 1))) := hN9
          have hc10 := hc9.drewN nq
          clear hN9 hc9 hX9 c7 dq dm
          generalize w9.drewN nq = w10 at *
          go_wp2_with fail
          go_roundw
          case rel => exact ⟨q + 1, by omega, by go_num, by rw [a3.out], by rw [z1.out, hbs.out], hN10, hc10⟩
          case measure => simp [intOf]; omega
        · have hgt : decide (yn < xv + bw) = false := by simpa using hg
          rw [if_neg hg] at hbs
          replace hbs := Lib.hid hbs
          clear hg ez
          go_quiet (fail)
          have hN10 : PlAt (w9.drewN nq) gN l.length (nums (addN ts (q + 1))) := hN9
          have hc10 := hc9.drewN nq
          clear hN9 hc9 hX9 c7 dq dm
          generalize w9.drewN nq = w10 at *
          go_wp2_with fail
          go_roundw
          case rel => exact ⟨q + 1, by omega, by go_num, by rw [a3.out], by rw [z1.out, hbs.out], hN10, hc10⟩
          case measure => simp [intOf]; omega
    · obtain rfl : q = l.length := by omega
      have hlti : ¬ (l.length : Int) < (l.length : Int) := by omega
      have e9 : addN ts l.length = us := by rw [← htl, addN_all, hus.out]
      rw [e9] at hNr
      have hul : us.length = l.length := by rw [← hus.out, addT_len, htl]
      have ez : bestZ us l.length = (bestN us l.length : Nat) := by unfold bestZ; rw [if_neg (by omega)]
      have hml : bestN us l.length < l.length := by have := bestN_lt us (by omega) l.length (by omega); omega
      rw [ez, List.take_length]
      have hbI : bestI ts = bestN us l.length := by unfold bestI; rw [hus.out, htl]
      obtain ⟨y, hy⟩ : ∃ y, us[bestN us l.length]? = some y := ⟨_, List.getElem?_eq_getElem (by omega)⟩
      have ey : us.getD (bestN us l.length) trn0 = y := by rw [List.getD_eq_getElem?_getD, hy]; rfl
      obtain ⟨ad, b, rfl, hbl, hbk, c0, c1, -, -, -, -⟩ := bk_at hrr hml
      have hyb : y.1 = b ∧ -1000000001000 ≤ y.2 ∧ y.2 ≤ 1000000001000 := by
        obtain ⟨x, hx, h1, rfl⟩ := us_at hus.out hts.out hy hbk
        have := hn.out x (List.mem_of_getElem? hx)
        exact ⟨h1, by dsimp only; omega, by dsimp only; omega⟩
      have e1 : PI = b.id := by rw [← hPI.out]; unfold pickId; rw [if_neg (by omega), hbI, hus.out, ey, hyb.1]
      have e3 : PT = (nums us).set (bestN us l.length) (y.2 - sumW l) := by
        rw [← hPT.out]
        unfold pickTs
        rw [if_neg (by omega), hbI, hus.out, ey]
        unfold nums
        rw [List.map_set]
      have dm := hNr.cell hml
      rw [nums_at _ _ _ hy] at dm
      have hNn := plat_set hNr (k := bestN us l.length) (by rw [nums_len]; omega) (y.2 - sumW l)
      rw [← e3] at hNn
      have hcn := hcr.setCell (p := ⟨gN, bestN us l.length, none⟩) (fun _ => rfl) (.int .i64 (y.2 - sumW l))
      have f0 := hNr.frozen (bestN us l.length)
      obtain ⟨ad2, b2, e2, -, hbk2, c0n, -, -, -, -, -⟩ := bk_at (reads_chg hr.out hsz hA.out hcn) hml
      rw [hbk] at hbk2
      obtain rfl : ad = ad2 := by simpa using e2
      obtain rfl : b = b2 := by simpa using hbk2
      have hlw : ∀ z ∈ l, 0 ≤ z.w ∧ z.w ≤ 1000 := by
        intro z hz
        rw [← hts.out] at hz
        obtain ⟨x, hx, rfl⟩ := List.mem_map.1 hz
        have := hn.out x hx
        exact ⟨this.2.2.1, this.2.2.2⟩
      obtain ⟨a1, a2⟩ := sumW_bd l hlw l.length (Nat.le_refl _)
      rw [List.take_length] at a1 a2
      have g1 : IntKind.i64.wrap (y.2 - sumW l) = y.2 - sumW l := i64_id _ (by omega)
      generalize bestN us l.length = m at *
      have m1 : decide ((m : Int) < 0) = false := by simp
      have m2 : (m : Int) < (l.length : Int) := by omega
      have m3 : (0 : Int) ≤ (m : Int) := by omega
      obtain ⟨yb, yn⟩ := y
      obtain ⟨bi, bw, bst, bv, bh, bo⟩ := b
      dsimp only at *
      generalize sumW l = sm at *
      clear ey hy hyb hbI ez e9 e3 hbk hlw hrr hN
      replace e1 := Lib.hid e1
      replace hNn := Lib.hid hNn
      replace hcn := Lib.hid hcn
      go_wp2_with fail
      go_ret2
      exact ⟨by rw [e1.out]; rfl, ⟨gN, by omega, Blk.chg h.out hcn.out (fun e => hgN e.symm), hNn.out⟩, hc1.trans hcn.out (fun b hb e => by omega)⟩
set_option maxRecDepth 100000 in
set_option maxHeartbeats 8000000 in
theorem refturn_old {w : World} {g : Nat} {k s ka kb v0 hv : Int} {L N : Value} {ho : Bool} {Pv : Value} (ver : Int) (l : List Bk) (A : Option Addr) (c : Nat) (hne : v0 ≠ ver)
    (h : RChBlk w g k s ka kb true v0 L N ho hv Pv) (hr : Reads w w.heap.size 6 A l.length (l.flatMap Bk.cells)) (hAg : ∀ a, A = some a → ¬ a.block = g)
    (h0 : 0 < l.length) (hl : l.length ≤ 1000) (hw : ∀ b ∈ l, 0 ≤ b.w ∧ b.w ≤ 1000) :
    Calls Try.prog 93 #[.pointer (some ⟨g, 4, none⟩), .int .i64 ver, .slice A l.length c] w fun e w' => e = .returned (.tuple #[.int .i64 (pickId (zeroT l)), .bool true]) ∧ (∃ gN, w.heap.size ≤ gN ∧ RChBlk w' g k s ka kb true ver (.slice A l.length c) (.slice (some ⟨gN, 0, none⟩) l.length l.length) ho hv Pv ∧ PlAt w' gN l.length (nums (pickTs (sumW l) (zeroT l)))) ∧ Chg (· = g) w w' := by
  obtain ⟨ts, hts0⟩ : ∃ ts, zeroT l = ts := ⟨_, rfl⟩
  have hz := zeroT_nums l
  have hts := zeroT_fst l
  have hn : ∀ x ∈ zeroT l, -1000000000000 ≤ x.2 ∧ x.2 ≤ 1000000000000 ∧ 0 ≤ x.1.w ∧ x.1.w ≤ 1000 := by
    intro x hx
    unfold zeroT at hx
    obtain ⟨b, hb, rfl⟩ := List.mem_map.1 hx
    have := hw b hb
    exact ⟨by dsimp only; omega, by dsimp only; omega, this.1, this.2⟩
  rw [hts0] at hz hts hn ⊢
  have htl : ts.length = l.length := by rw [← hts, List.length_map]
  obtain ⟨us, hus⟩ : ∃ us, addT ts = us := ⟨_, rfl⟩
  have hmk := run_make_row' (P := Try.prog) 66 3 (.int .i64 0) 8 Try.underlying66 info_int rfl .i64 .i64 l.length (by omega) (by omega)
  have c4 := h.cell 4
  have c5 := h.cell 5
  have f4 := h.frozen 4
  have f5 := h.frozen 5
  have f6 := h.frozen 6
  have c6 := h.cell 6
  have C3 : RChBlk (((w.setCell ⟨g, 4, none⟩ (.bool true)).setCell ⟨g, 5, none⟩ (.int .i64 ver)).setCell ⟨g, 6, none⟩ (.slice A l.length c)) g k s ka kb true ver (.slice A l.length c) N ho hv Pv := by
    simpa using ((Blk.set_ h 4 (.bool true)).set_ 5 (.int .i64 ver)).set_ 6 (.slice A l.length c)
  have C4 := Blk.alloc C3 (.cells (madeCells #[.int .i64 0] l.length) 3)
  have N4 := World.rowIs_made (((w.setCell ⟨g, 4, none⟩ (.bool true)).setCell ⟨g, 5, none⟩ (.int .i64 ver)).setCell ⟨g, 6, none⟩ (.slice A l.length c)) (.int .i64 0) l.length 3
  have z3 : (((w.setCell ⟨g, 4, none⟩ (.bool true)).setCell ⟨g, 5, none⟩ (.int .i64 ver)).setCell ⟨g, 6, none⟩ (.slice A l.length c)).heap.size = w.heap.size := by simp
  rw [z3] at N4
  have N4' : PlAt ((((w.setCell ⟨g, 4, none⟩ (.bool true)).setCell ⟨g, 5, none⟩ (.int .i64 ver)).setCell ⟨g, 6, none⟩ (.slice A l.length c)).alloc (.cells (madeCells #[.int .i64 0] l.length) 3)) w.heap.size l.length (nums ts) := N4.congr fun p hp => by rw [hz]; simp [List.getD_eq_getElem?_getD, hp]
  have hc3 := ((((Chg.refl (· = g) w).setCell (p := ⟨g, 4, none⟩) (fun _ => rfl) (.bool true)).setCell (p := ⟨g, 5, none⟩) (fun _ => rfl) (.int .i64 ver)).setCell (p := ⟨g, 6, none⟩) (fun _ => rfl) (.slice A l.length c)).alloc (.cells (madeCells #[.int .i64 0] l.length) 3)
  clear N4
  have c7 := C4.cell 7
  have f7 := C4.frozen 7
  obtain ⟨w4, hw4⟩ : ∃ w4, w4 = (((w.setCell ⟨g, 4, none⟩ (.bool true)).setCell ⟨g, 5, none⟩ (.int .i64 ver)).setCell ⟨g, 6, none⟩ (.slice A l.length c)).alloc (.cells (madeCells #[.int .i64 0] l.length) 3) := ⟨_, rfl⟩
  rw [← hw4] at C4 N4' hc3
  have hgN := rch_ne C4 N4'
  have hN5 := N4'.setOther (a := ⟨g, 7, none⟩) hgN (.slice (some ⟨w.heap.size, 0, none⟩) l.length l.length)
  have C5 : RChBlk (w4.setCell ⟨g, 7, none⟩ (.slice (some ⟨w.heap.size, 0, none⟩) l.length l.length)) g k s ka kb true ver (.slice A l.length c) (.slice (some ⟨w.heap.size, 0, none⟩) l.length l.length) ho hv Pv := by
    simpa using C4.set_ 7 (.slice (some ⟨w.heap.size, 0, none⟩) l.length l.length)
  have hc5 := hc3.setCell (p := ⟨g, 7, none⟩) (fun _ => rfl) (.slice (some ⟨w.heap.size, 0, none⟩) l.length l.length)
  have hr5 := reads_chg hr (Nat.le_refl _) hAg hc5
  have hA : ∀ a, A = some a → ¬ a.block = w.heap.size := by
    intro a ha
    obtain ⟨ad, rfl, hb, -⟩ := hr.2 h0
    obtain rfl : ad = a := by simpa using ha
    omega
  have hsz := hc5.size
  simp only [List.getElem?_toArray, List.getElem?_cons_zero, List.getElem?_cons_succ] at c4 c5 c6 c7
  have hvb : (v0 != ver) = true := by simpa using hne
  replace hne := Lib.hid hne
  replace hts := Lib.hid hts
  replace hn := Lib.hid hn
  replace hus := Lib.hid hus
  replace hr5 := Lib.hid hr5
  replace hA := Lib.hid hA
  replace C5 := Lib.hid C5
  replace hc5 := Lib.hid hc5
  replace hN5 := Lib.hid hN5
  obtain ⟨PI, hPI⟩ : ∃ PI, pickId ts = PI := ⟨_, rfl⟩
  obtain ⟨PT, hPT⟩ : ∃ PT, nums (pickTs (sumW l) ts) = PT := ⟨_, rfl⟩
  rw [hPI, hPT]
  replace hPI := Lib.hid hPI
  replace hPT := Lib.hid hPT
  clear h hr hAg C3 C4 N4' hc3
  go_enter Try.func93, Try.ntmps93
  go_wp2_with fail
  rw [← hw4]
  clear hw4 c4 c5 c6 c7 f4 f5 f6 f7 z3
  generalize w4.setCell ⟨g, 7, none⟩ (.slice (some ⟨w.heap.size, 0, none⟩) l.length l.length) = w1 at *
  generalize hwz : w.heap.size = gN at *
  have hN := hN5.out
  have hc1 := hc5.out
  have h := C5
  have hr := hr5
  clear hN5 hc5 C5 hr5
  go_loopw [8, 9, 10, 11, 12] (fun al be i _ _ wr => ∃ q : Nat, q ≤ l.length ∧ i = .int .i64 (q : Nat) ∧ al = .int .i64 (sumW (l.take q)) ∧ be = .int .i64 (bestZ us q) ∧ PlAt wr gN l.length (nums (addN ts q)) ∧ Chg (· = gN) w1 wr) (fun _ _ i _ _ _ => l.length - (intOf i).toNat)
  case atStart => exact ⟨0, by omega, rfl, by simp [sumW], rfl, by rw [addN_zero]; exact hN, Chg.refl _ _⟩
  case round =>
    obtain ⟨q, hq, rfl, rfl, rfl, hNr, hcr⟩ := hrel
    have hXr := Blk.chg h.out hcr (fun e => hgN e.symm)
    have hrr := reads_chg hr.out hsz hA.out hcr
    have c6 := hXr.cell 6
    have c7 := hXr.cell 7
    simp only [List.getElem?_toArray, List.getElem?_cons_zero, List.getElem?_cons_succ] at c6 c7
    by_cases hlt : q < l.length
    · have hlti : (q : Int) < (l.length : Int) := by omega
      obtain ⟨ad, b, rfl, hbl, hbk, c0, c1, -, -, -, -⟩ := bk_at hrr hlt
      obtain ⟨x, hx⟩ : ∃ x, ts[q]? = some x := ⟨_, List.getElem?_eq_getElem (by omega)⟩
      have hxb : x.1 = b := by rw [← hts.out, List.getElem?_map, hx] at hbk; simpa using hbk
      have d0 := hNr.cell (show q < l.length from hlt)
      rw [nums_at _ _ _ (addN_at ts q x hx)] at d0
      have hNn := plat_set hNr (k := q) (by rw [nums_len, addN_len _ _ (by omega)]; omega) (x.2 + x.1.w)
      rw [← nums_step ts q x hx] at hNn
      have hcn := hcr.setCell (p := ⟨gN, q, none⟩) (fun _ => rfl) (.int .i64 (x.2 + x.1.w))
      have f0 := hNr.frozen q
      obtain ⟨b1, b2, b3, b4⟩ := hn.out x (List.mem_of_getElem? hx)
      rw [hxb] at hNn hcn b3 b4
      have hXn : RChBlk (wr.setCell ⟨gN, q, none⟩ (.int .i64 (x.2 + b.w))) g k s ka kb true ver (.slice (some ad) l.length c) (.slice (some ⟨gN, 0, none⟩) l.length l.length) ho hv Pv := Blk.far hXr (p := ⟨gN, q, none⟩) (fun e => hgN e.symm) _
      have hux : us[q]? = some (x.1, x.2 + b.w) := by rw [← hus.out, addT_at ts q x hx, hxb]
      have eux : us.getD q trn0 = (x.1, x.2 + b.w) := by rw [List.getD_eq_getElem?_getD, hux]; rfl
      have dq := hNn.cell hlt
      rw [nums_at _ _ _ ((addN_lt ts (q + 1) q (by omega) (by omega)).trans (by rw [hus.out]; exact hux))] at dq
      dsimp only at dq
      have hlw : ∀ z ∈ l, 0 ≤ z.w ∧ z.w ≤ 1000 := by
        intro z hz
        rw [← hts.out] at hz
        obtain ⟨y, hy, rfl⟩ := List.mem_map.1 hz
        have := hn.out y hy
        exact ⟨this.2.2.1, this.2.2.2⟩
      obtain ⟨a1, a2⟩ := sumW_bd l hlw q hq
      have a3 := sumW_take l q b hbk
      have g1 : IntKind.i64.wrap (x.2 + b.w) = x.2 + b.w := i64_id _ (by omega)
      have g2 : IntKind.i64.wrap (sumW (l.take q) + b.w) = sumW (l.take q) + b.w := i64_id _ (by omega)
      have hbs : bestN us (q + 1) = if (us.getD (bestN us q) trn0).2 < (us.getD q trn0).2 then q else bestN us q := rfl
      rw [eux] at hbs
      dsimp only at hbs
      have z1 : bestZ us (q + 1) = (bestN us (q + 1) : Nat) := by unfold bestZ; rw [if_neg (by omega)]
      generalize sumW (l.take q) = sm at *
      obtain ⟨xv, hxv⟩ : ∃ xv, x.2 = xv := ⟨_, rfl⟩
      rw [hxv] at d0 hNn hcn hXn hux eux dq g1 hbs b1 b2
      obtain ⟨bi, bw, bst, bv, bh, bo⟩ := b
      dsimp only at *
      replace a3 := Lib.hid a3
      replace hx := Lib.hid hx
      replace hxb := Lib.hid hxb
      replace hxv := Lib.hid hxv
      replace hbk := Lib.hid hbk
      replace hlw := Lib.hid hlw
      replace hux := Lib.hid hux
      replace eux := Lib.hid eux
      replace hNn := Lib.hid hNn
      replace hXn := Lib.hid hXn
      replace hcn := Lib.hid hcn
      replace dq := Lib.hid dq
      replace z1 := Lib.hid z1
      clear hrr hXr hNr hN
      go_wp2_with fail
      go_quiet (fail)
      rename_i nq
      have c7' : (wr.drewN nq).cell? ⟨g, 7, none⟩ = some (.slice (some ⟨gN, 0, none⟩) l.length l.length) := c7
      have f0' : (wr.drewN nq).frozen? ⟨gN, q, none⟩ = false := f0
      have d0' : (wr.drewN nq).cell? ⟨gN, q, none⟩ = some (.int .i64 xv) := d0
      have hX9 : RChBlk ((wr.drewN nq).setCell ⟨gN, q, none⟩ (.int .i64 (xv + bw))) g k s ka kb true ver (.slice (some ad) l.length c) (.slice (some ⟨gN, 0, none⟩) l.length l.length) ho hv Pv := hXn.out
      have hN9 : PlAt ((wr.drewN nq).setCell ⟨gN, q, none⟩ (.int .i64 (xv + bw))) gN l.length (nums (addN ts (q + 1))) := hNn.out
      have hc9 := (hcr.drewN nq).setCell (p := ⟨gN, q, none⟩) (fun _ => rfl) (.int .i64 (xv + bw))
      clear c6 c7 c0 c1 d0 f0 hcr hcn hXn hNn dq
      go_wp2_with fail
      generalize (wr.drewN nq).setCell ⟨gN, q, none⟩ (.int .i64 (xv + bw)) = w9 at *
      have c7 := hX9.cell 7
      simp only [List.getElem?_toArray, List.getElem?_cons_zero, List.getElem?_cons_succ] at c7
      have dq := hN9.cell hlt
      rw [nums_at _ _ _ ((addN_lt ts (q + 1) q (by omega) (by omega)).trans (by rw [hus.out]; exact hux.out))] at dq
      dsimp only at dq
      clear c7' f0' d0' g1 g2
      by_cases hq0 : q = 0
      · have ez : bestZ us q = -1 := by unfold bestZ; rw [if_pos hq0]
        have eb : bestN us (q + 1) = q := by have := bestN_le us q; omega
        rw [ez]
        replace hq0 := Lib.hid hq0
        replace hbs := Lib.hid hbs
        replace eb := Lib.hid eb
        clear ez dq
        go_quiet (fail)
        have hN10 : PlAt (w9.drewN nq) gN l.length (nums (addN ts (q + 1))) := hN9
        have hc10 := hc9.drewN nq
        clear hN9 hc9 hX9 c7
        generalize w9.drewN nq = w10 at *
        go_wp2_with fail
        go_roundw
        case rel => exact ⟨q + 1, by omega, by go_num, by rw [a3.out], by rw [z1.out, eb.out], hN10, hc10⟩
        case measure => simp [intOf]; omega
      · have ez : bestZ us q = (bestN us q : Nat) := by unfold bestZ; rw [if_neg hq0]
        have hml : bestN us q < q := by have := bestN_le us (q - 1); rw [show q - 1 + 1 = q by omega] at this; omega
        obtain ⟨y, hy⟩ : ∃ y, us[bestN us q]? = some y := ⟨_, List.getElem?_eq_getElem (by have := addT_len ts; rw [hus.out] at this; omega)⟩
        have ey : us.getD (bestN us q) trn0 = y := by rw [List.getD_eq_getElem?_getD, hy]; rfl
        rw [ey] at hbs
        have dm := hN9.cell (show bestN us q < l.length by omega)
        rw [nums_at _ _ _ ((addN_lt ts (q + 1) (bestN us q) (by omega) (by omega)).trans (by rw [hus.out]; exact hy))] at dm
        rw [ez]
        generalize bestN us q = m at *
        obtain ⟨yb, yn⟩ := y
        dsimp only at *
        have m1 : decide ((m : Int) < 0) = false := by simp
        have m2 : (m : Int) < (l.length : Int) := by omega
        have m3 : (0 : Int) ≤ (m : Int) := by omega
        replace hy := Lib.hid hy
        replace ey := Lib.hid ey
        by_cases hg : yn < xv + bw
        · have hgt : decide (yn < xv + bw) = true := by simpa using hg
          rw [if_pos hg] at hbs
          replace hbs := Lib.hid hbs
          clear hg ez
          go_quiet (fail)
          have hN10 : PlAt (w9.drewN nq) gN l.length (nums (addN ts (q + 1))) := hN9
          have hc10 := hc9.drewN nq
          clear hN9 hc9 hX9 c7 dq dm
          generalize w9.drewN nq = w10 at *
          go_wp2_with fail
          go_roundw
          case rel => exact ⟨q + 1, by omega, by go_num, by rw [a3.out], by rw [z1.out, hbs.out], hN10, hc10⟩
          case measure => simp [intOf]; omega
        · have hgt : decide (yn < xv + bw) = false := by simpa using hg
          rw [if_neg hg] at hbs
          replace hbs := Lib.hid hbs
          clear hg ez
          go_quiet (fail)
          have hN10 : PlAt (w9.drewN nq) gN l.length (nums (addN ts (q + 1))) := hN9
          have hc10 := hc9.drewN nq
          clear hN9 hc9 hX9 c7 dq dm
          generalize w9.drewN nq = w10 at *
          go_wp2_with fail
          go_roundw
          case rel => exact ⟨q + 1, by omega, by go_num, by rw [a3.out], by rw [z1.out, hbs.out], hN10, hc10⟩
          case measure => simp [intOf]; omega
    · obtain rfl : q = l.length := by omega
      have hlti : ¬ (l.length : Int) < (l.length : Int) := by omega
      have e9 : addN ts l.length = us := by rw [← htl, addN_all, hus.out]
      rw [e9] at hNr
      have hul : us.length = l.length := by rw [← hus.out, addT_len, htl]
      have ez : bestZ us l.length = (bestN us l.length : Nat) := by unfold bestZ; rw [if_neg (by omega)]
      have hml : bestN us l.length < l.length := by have := bestN_lt us (by omega) l.length (by omega); omega
      rw [ez, List.take_length]
      have hbI : bestI ts = bestN us l.length := by unfold bestI; rw [hus.out, htl]
      obtain ⟨y, hy⟩ : ∃ y, us[bestN us l.length]? = some y := ⟨_, List.getElem?_eq_getElem (by omega)⟩
      have ey : us.getD (bestN us l.length) trn0 = y := by rw [List.getD_eq_getElem?_getD, hy]; rfl
      obtain ⟨ad, b, rfl, hbl, hbk, c0, c1, -, -, -, -⟩ := bk_at hrr hml
      have hyb : y.1 = b ∧ -1000000001000 ≤ y.2 ∧ y.2 ≤ 1000000001000 := by
        obtain ⟨x, hx, h1, rfl⟩ := us_at hus.out hts.out hy hbk
        have := hn.out x (List.mem_of_getElem? hx)
        exact ⟨h1, by dsimp only; omega, by dsimp only; omega⟩
      have e1 : PI = b.id := by rw [← hPI.out]; unfold pickId; rw [if_neg (by omega), hbI, hus.out, ey, hyb.1]
      have e3 : PT = (nums us).set (bestN us l.length) (y.2 - sumW l) := by
        rw [← hPT.out]
        unfold pickTs
        rw [if_neg (by omega), hbI, hus.out, ey]
        unfold nums
        rw [List.map_set]
      have dm := hNr.cell hml
      rw [nums_at _ _ _ hy] at dm
      have hNn := plat_set hNr (k := bestN us l.length) (by rw [nums_len]; omega) (y.2 - sumW l)
      rw [← e3] at hNn
      have hcn := hcr.setCell (p := ⟨gN, bestN us l.length, none⟩) (fun _ => rfl) (.int .i64 (y.2 - sumW l))
      have f0 := hNr.frozen (bestN us l.length)
      obtain ⟨ad2, b2, e2, -, hbk2, c0n, -, -, -, -, -⟩ := bk_at (reads_chg hr.out hsz hA.out hcn) hml
      rw [hbk] at hbk2
      obtain rfl : ad = ad2 := by simpa using e2
      obtain rfl : b = b2 := by simpa using hbk2
      have hlw : ∀ z ∈ l, 0 ≤ z.w ∧ z.w ≤ 1000 := by
        intro z hz
        rw [← hts.out] at hz
        obtain ⟨x, hx, rfl⟩ := List.mem_map.1 hz
        have := hn.out x hx
        exact ⟨this.2.2.1, this.2.2.2⟩
      obtain ⟨a1, a2⟩ := sumW_bd l hlw l.length (Nat.le_refl _)
      rw [List.take_length] at a1 a2
      have g1 : IntKind.i64.wrap (y.2 - sumW l) = y.2 - sumW l := i64_id _ (by omega)
      generalize bestN us l.length = m at *
      have m1 : decide ((m : Int) < 0) = false := by simp
      have m2 : (m : Int) < (l.length : Int) := by omega
      have m3 : (0 : Int) ≤ (m : Int) := by omega
      obtain ⟨yb, yn⟩ := y
      obtain ⟨bi, bw, bst, bv, bh, bo⟩ := b
      dsimp only at *
      generalize sumW l = sm at *
      clear ey hy hyb hbI ez e9 e3 hbk hlw hrr hN
      replace e1 := Lib.hid e1
      replace hNn := Lib.hid hNn
      replace hcn := Lib.hid hcn
      go_wp2_with fail
      go_ret2
      exact ⟨by rw [e1.out]; rfl, ⟨gN, by omega, Blk.chg h.out hcn.out (fun e => hgN e.symm), hNn.out⟩, hc1.trans hcn.out (fun b hb e => by omega)⟩
end Go.Proofs.Ytkpkjpdhlmjchaa
