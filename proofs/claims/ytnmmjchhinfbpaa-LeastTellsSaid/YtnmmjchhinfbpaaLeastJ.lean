/- least: the document's Order. -/
import Derived.Test.YtnmmjchhinfbpaaLeastU
namespace Go.Proofs.Ytnmmjchhinfbpaa
open Go Go.RowKit Go.Deep

def woB (l : List Bk) (i : Int) : List Bk := l.filter fun b => b.id != i
/-- The least first, and then of the others. -/
def SelO (M : LM) : List Bk → List Int → Prop
  | l, [] => l = []
  | l, i :: r => l ≠ [] ∧ (foldB M l).id = i ∧ SelO M (woB l i) r
theorem woB_take (l : List Bk) (i : Int) (k : Nat) (x : Bk) (h : l[k]? = some x) : woB (l.take (k + 1)) i = if x.id != i then woB (l.take k) i ++ [x] else woB (l.take k) i := by
  obtain ⟨hk, rfl⟩ := List.getElem?_eq_some_iff.1 h
  unfold woB
  rw [List.take_succ_eq_append_getElem hk, List.filter_append]
  by_cases e : (l[k].id != i) = true
  · rw [if_pos e, List.filter_cons_of_pos (by simpa using e)]
    rfl
  · rw [if_neg e, List.filter_cons_of_neg (by simpa using e), List.filter_nil, List.append_nil]
theorem woB_len (l : List Bk) (i : Int) : (woB l i).length ≤ l.length := List.length_filter_le _ _
set_option maxRecDepth 100000 in
set_option maxHeartbeats 4000000 in
theorem refwithout_any (l : List Bk) (A : Option Addr) (c : Nat) (id : Int) (w : World) (hr : Reads w w.heap.size 6 A l.length (l.flatMap Bk.cells)) (hl : l.length ≤ 1000) :
    Calls Try.prog 62 #[.slice A l.length c, .int .i64 id] w fun e w' => ∃ A' c', e = .returned (.slice A' (woB l id).length c') ∧ OwnB w' w.heap.size A' c' (woB l id) ∧ Below w.heap.size w w' := by
  replace hr := Lib.hid hr
  go_enter Try.func62, Try.ntmps62
  go_wp2_with fail
  go_loopw [5, 6] (fun s i wr => ∃ (k : Nat) (P : Option Addr) (p : Nat), k ≤ l.length ∧ i = .int .i64 (k : Nat) ∧ s = .slice P (woB (l.take k) id).length p ∧ OwnB wr w.heap.size P p (woB (l.take k) id) ∧ Below w.heap.size w wr) (fun _ i _ => l.length - (intOf i).toNat)
  case atStart => exact ⟨0, none, 0, by omega, rfl, rfl, OwnA.nil _ _, Below.refl _ _⟩
  case round =>
    obtain ⟨k, P, p, hk, rfl, rfl, hO, hb⟩ := hrel
    have hzB := hb.size
    by_cases hlt : k < l.length
    · have hlti : (k : Int) < (l.length : Int) := by omega
      obtain ⟨ad, b, rfl, hbl, hbk, c0, c1, c2, c3, c4, c5⟩ := bk_at (hr.out.below hb) hlt
      have hst := woB_take l id k b hbk
      have hol : (woB (l.take k) id).length ≤ 1000 := Nat.le_trans (woB_len _ _) (by rw [List.length_take]; omega)
      generalize woB (l.take k) id = o at *
      obtain ⟨bi, bw, bs, bv, bh, bo⟩ := b
      dsimp only at *
      by_cases e : (bi != id) = true
      · rw [if_pos e] at hst
        replace hst := Lib.hid hst
        replace hbk := Lib.hid hbk
        go_wp2_with (first | (at_builtin; (refine wpList_push_bk rfl (.tmp 20) (.tmp 25) rfl w.heap.size P p o ⟨bi, _, _, _, _, _⟩ o.length rfl rfl hO _ (by simp) rfl rfl (by omega) hzB ?_; intro P1 p1 w3 ho1 hp1)))
        have hb3 := hp1.below hb (by omega) (fun b hb => (hO.block hb).1)
        go_roundw
        case rel => exact ⟨k + 1, P1, p1, by omega, by go_num, by rw [hst.out, List.length_append]; rfl, by rw [hst.out]; exact ho1, hb3⟩
        case measure => simp [intOf]; omega
      · have e1 : (bi != id) = false := by simpa using e
        rw [if_neg e] at hst
        replace hst := Lib.hid hst
        replace hbk := Lib.hid hbk
        replace e := Lib.hid e
        go_wp2_with fail
        go_roundw
        case rel => exact ⟨k + 1, P, p, by omega, by go_num, by rw [hst.out], by rw [hst.out]; exact hO, hb⟩
        case measure => simp [intOf]; omega
    · obtain rfl : k = l.length := by omega
      have hlti : ¬ (l.length : Int) < (l.length : Int) := by omega
      rw [List.take_length] at hO ⊢
      go_wp2_with fail
      go_ret
      exact ⟨P, p, rfl, hO, hb⟩
theorem reads_chgI {F : Nat → Prop} {w w1 : World} {size n : Nat} {A : Option Addr} {xs : List Value} (h : Reads w w.heap.size size A n xs) (k : Chg F w w1) (hA : ∀ b, InB A b → ¬ F b) : Reads w1 w1.heap.size size A n xs := by
  refine ⟨h.1, fun hn => ?_⟩
  obtain ⟨ad, e, hb, hc⟩ := h.2 hn
  have hbl : ∀ j, (ad.add j).block = ad.block := fun j => by
    unfold Addr.add
    split <;> rfl
  exact ⟨ad, e, Nat.lt_of_lt_of_le hb k.size, fun j u hu => (cell_chg k (by rw [hbl]; exact hb) (by rw [hbl]; exact hA _ ⟨ad, e, rfl⟩)).trans (hc j u hu)⟩
def slLen (v : Value) : Nat := match v with | .slice _ n _ => n | _ => 0
set_option maxRecDepth 100000 in
set_option maxHeartbeats 4000000 in
theorem reforder_any (l : List Bk) (R : List Int) (A : Option Addr) (c g : Nat) (M : LM) (w : World) (hr : Reads w w.heap.size 6 A l.length (l.flatMap Bk.cells)) (hl : l.length ≤ 12) (h : RLoadAt w g M) (hM : M.length ≤ 1000000) (hR : SelO M l R) :
    Calls Try.prog 26 #[.slice A l.length c, .pointer (some ⟨g, 0, none⟩)] w fun e w' => ∃ A' c', e = .returned (.slice A' R.length c') ∧ OwnI w' w.heap.size A' c' R ∧ Below w.heap.size w w' := by
  have hRl : ∀ (r : List Int) (L : List Bk), L.length ≤ 12 → SelO M L r → r.length ≤ L.length := by
    intro r
    induction r with
    | nil => intro L _ _; simp
    | cons i r ih =>
      intro L hL hs
      obtain ⟨h1, h2, h3⟩ := hs
      have h4 : (woB L i).length < L.length := by
        have hm : foldB M L ∈ L := by
          cases L with
          | nil => exact absurd rfl h1
          | cons x q =>
            have key : ∀ (q : List Bk) (x : Bk), q.foldl (betterB M) x ∈ x :: q := by
              intro q
              induction q with
              | nil => intro x; simp
              | cons y q ih =>
                intro x
                have := ih (betterB M x y)
                rw [List.foldl_cons]
                rcases List.mem_cons.1 this with e | e
                · rw [e]; unfold betterB; split <;> simp
                · simp [e]
            exact key q x
        exact List.length_filter_lt_length_iff_exists.2 ⟨_, hm, by simp [h2]⟩
      have := ih (woB L i) (by omega) h3
      simp
      omega
  have hR12 := hRl R l hl hR
  replace hr := Lib.hid hr
  replace hR := Lib.hid hR
  go_enter Try.func26, Try.ntmps26
  go_wp2_with fail
  go_loopw [0, 5] (fun s0 s5 wr => ∃ (cur : List Bk) (B : Option Addr) (d : Nat) (out rest : List Int) (P : Option Addr) (p : Nat), cur.length ≤ l.length ∧ s0 = .slice B cur.length d ∧ Reads wr wr.heap.size 6 B cur.length (cur.flatMap Bk.cells) ∧ s5 = .slice P out.length p ∧ OwnI wr w.heap.size P p out ∧ SelO M cur rest ∧ out ++ rest = R ∧ (0 < cur.length → ∀ b, InB B b → b < wr.heap.size ∧ ¬ InB P b) ∧ Below w.heap.size w wr) (fun s0 _ _ => slLen s0)
  case atStart => exact ⟨l, A, c, [], R, none, 0, by omega, rfl, hr.out, rfl, OwnA.nil _ _, hR.out, rfl, (fun hp b hi => ⟨by obtain ⟨ad, e, hb, _⟩ := hr.out.2 hp; obtain ⟨a, e2, rfl⟩ := hi; rw [e] at e2; cases e2; exact hb, fun h => by obtain ⟨a, e, _⟩ := h; cases e⟩), Below.refl _ _⟩
  case round =>
    obtain ⟨cur, B, d, out, rest, P, p, hcl, rfl, hrc, rfl, hO, hs, hor, hap, hb⟩ := hrel
    have hzB := hb.size
    have hol : out.length ≤ 12 := by have := congrArg List.length hor; rw [List.length_append] at this; omega
    cases rest with
    | nil =>
      have hc0 : cur = [] := hs
      subst hc0
      rw [List.append_nil] at hor
      subst hor
      clear hs hrc hap
      simp only [List.length_nil]
      go_wp2_with fail
      go_ret
      exact ⟨P, p, rfl, hO, hb⟩
    | cons i r =>
      obtain ⟨h1, h2, h3⟩ := hs
      have hpos : 0 < cur.length := List.length_pos_iff.2 h1
      have hdp : decide ((0 : Int) < (cur.length : Int)) = true := by simp; omega
      have hdq : decide (0 < cur.length) = true := by simpa using hpos
      have hlw : (woB cur i).length < cur.length := by
        have := hRl (i :: r) cur (by omega) ⟨h1, h2, h3⟩
        have hm : ∃ x ∈ cur, x.id = i := by
          by_cases e : ∃ x ∈ cur, x.id = i
          · exact e
          · exfalso
            have key : ∀ (q : List Bk) (x : Bk), q.foldl (betterB M) x ∈ x :: q := by
              intro q
              induction q with
              | nil => intro x; simp
              | cons y q ih =>
                intro x
                have := ih (betterB M x y)
                rw [List.foldl_cons]
                rcases List.mem_cons.1 this with e | e
                · rw [e]; unfold betterB; split <;> simp
                · simp [e]
            cases cur with
            | nil => exact h1 rfl
            | cons x q => exact e ⟨_, key q x, h2⟩
        obtain ⟨x, hx1, hx2⟩ := hm
        exact List.length_filter_lt_length_iff_exists.2 ⟨x, hx1, by simp [hx2]⟩
      have PK := ref27_pick cur B d g M wr hrc (by omega) (h.call hb) hM
      rw [h2, hdq] at PK
      have WO := fun W hw => refwithout_any cur B d i W hw (by omega)
      have hap2 := hap hpos
      replace PK := Lib.hid PK
      replace WO := Lib.hid WO
      replace h3 := Lib.hid h3
      replace hor := Lib.hid hor
      clear h1 h2 hRl hap
      go_wp2_with fail
      refine PK.out.mono ?_
      rintro e w2 ⟨rfl, n2, rfl⟩
      have hbn := below_drewN (Below.refl wr.heap.size wr) n2
      have hO2 : OwnI (wr.drewN n2) w.heap.size P p out := hO
      have hb2 : Below w.heap.size w (wr.drewN n2) := below_drewN hb n2
      have hz2 : w.heap.size ≤ (wr.drewN n2).heap.size := hzB
      have hrc2 : Reads (wr.drewN n2) (wr.drewN n2).heap.size 6 B cur.length (cur.flatMap Bk.cells) := hrc
      replace hap2 : ∀ b, InB B b → b < (wr.drewN n2).heap.size ∧ ¬ InB P b := hap2
      clear hrc hO hb
      replace hrc2 := Lib.hid hrc2
      replace hap2 := Lib.hid hap2
      generalize wr.drewN n2 = w2 at *
      go_wp2_with (first | (at_builtin; (refine wpList_push_int rfl (.tmp 17) (.tmp 19) rfl w.heap.size P p out out.length rfl rfl hO2 _ rfl rfl (by omega) hz2 ?_; intro P3 p3 w3 ho3 hp3)))
      have hrc3 := reads_chgI hrc2.out hp3.chg fun b hi => (hap2.out b hi).2
      have hb3 := hp3.below hb2 hz2 (fun b hb => (hO2.block hb).1)
      replace ho3 := Lib.hid ho3
      replace hp3 := Lib.hid hp3
      refine (WO.out _ hrc3).mono ?_
      rintro e w4 ⟨B4, d4, rfl, hO4, hb4⟩
      have hb5 := below_chain hb4 hb3
      have ho5 := ho3.out.call hb4
      have hrd := hO4.reads
      have hsz4 := hb4.size
      go_wp2_with fail
      go_roundw
      case rel =>
        refine ⟨woB cur i, B4, d4, out ++ [i], r, P3, p3, by omega, rfl, hrd, by rw [List.length_append]; rfl, ho5, h3.out, by rw [List.append_assoc]; exact hor.out, fun _ b hi => ⟨?_, fun hi2 => ?_⟩, hb5⟩
        · exact (hO4.block hi).2
        · have := (hO4.block hi).1
          have := (ho3.out.block hi2).2
          omega
      case measure => simp [slLen]; omega
end Go.Proofs.Ytnmmjchhinfbpaa
