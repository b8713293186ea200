/- swrr: what a turner holds; New; eligible: Weight. -/
import Derived.Test.YtkpkjpdhlmjchaaTwo
import Derived.Deep.Cut
namespace Go.Proofs.Ytkpkjpdhlmjchaa
open Go Go.RowKit Go.Deep

abbrev Trn := Bk × Int
abbrev tcell (x : Trn) : List Value := [.int .i64 x.1.id, .int .i64 x.1.w, .int .i64 x.1.st, .bool x.1.v, .int .u64 x.1.hi, .int .u64 x.1.lo, .int .i64 x.2]
theorem tcell_len (x : Trn) : (tcell x).length = 7 := rfl
theorem tcell_one (x : Trn) : ∀ u ∈ tcell x, u.oneCell' = true := by
  intro u hu
  simp at hu
  rcases hu with rfl | rfl | rfl | rfl | rfl | rfl | rfl <;> rfl
theorem info_trn : (Try.prog.info? 187).map (fun i => (i.zero, i.size, i.bytes)) = some (some (.agg #[.int .i64 0, .int .i64 0, .int .i64 0, .bool false, .int .u64 0, .int .u64 0, .int .i64 0]), 7, 56) := by kernel_rfl
abbrev OwnT (w : World) (base : Nat) (A : Option Addr) (c : Nat) (l : List Trn) : Prop := OwnA tcell 7 187 w base A c l
theorem wpList_push_trn {W : World} {cs : Array Value} {ops : Array Oper} {rest : List Oper} {o : Oper} {a : Act} {Q : Exit → Act → World → Prop} (hgd : o.guard = none) (s x : Operand)
    (ho : o.op = .call { callee := .builtin .append, args := #[s, x], argTypes := #[182, 182] })
    (base : Nat) (A : Option Addr) (c : Nat) (l : List Trn) (v : Trn) (n : Nat) (hn : l.length = n) (hs : a.eval s = .slice A n c) (hown : OwnT W base A c l) (g : Nat) (hg : g = W.heap.size) (hcs : (tcell v).toArray = cs)
    (hx : a.eval x = .slice (some ⟨g, 0, none⟩) 1 1) (hl : l.length ≤ 1000000) (hbase : base ≤ W.heap.size)
    (h : ∀ A' c' w', OwnT w' base A' c' (l ++ [v]) → Pushed W w' A A' → wpList Try.prog ops Q rest (a.put o.dst (.slice A' (n + 1) c')) w') : wpList Try.prog ops Q (o :: rest) a (W.alloc (.cells cs 187)) := by
  obtain ⟨i0, hi0, hz0, hz1, hz2⟩ := info_parts info_trn
  exact wpList_push tcell 7 (fun _ => rfl) tcell_one (by omega) 182 i0 _ 56 Try.underlying182 hi0 hz0 hz1 hz2 rfl (by omega) hgd s x ho base A c l v n hn hs hown g hg hcs hx hl hbase h
/-- A turner that was made. -/
def TurnAt (w : World) (base g : Nat) (s : Bool) (ver wt : Int) (ts : List Trn) : Prop :=
  ∃ A c, Blk w g 184 #[.bool true, .bool s, .int .i64 ver, .int .i64 wt, .slice A ts.length c] ∧ OwnT w base A c ts
theorem TurnAt.call {w w' : World} {base g : Nat} {s : Bool} {ver wt : Int} {ts : List Trn} (h : TurnAt w base g s ver wt ts) (hb : Below w.heap.size w w') : TurnAt w' base g s ver wt ts := by
  obtain ⟨A, c, h1, h2⟩ := h
  exact ⟨A, c, h1.call hb, h2.call hb⟩
/-- The blocks that belong to turners. -/
def TB (w : World) (b : Nat) : Prop := ∃ cs, Blk w b 184 cs ∨ Blk w b 187 cs
theorem swrr_new (w : World) : Calls Try.prog 87 #[] w fun e w' => e = .returned (.pointer (some ⟨w.heap.size, 0, none⟩)) ∧ w' = w.alloc (.cells #[.bool true, .bool false, .int .i64 0, .int .i64 0, .slice none 0 0] 184) := by
  go_enter Try.func87, Try.ntmps87
  go_wp2_with fail
  go_ret
  exact ⟨rfl, rfl⟩
def sumW (l : List Bk) : Int := (l.map Bk.w).sum
theorem sumW_take (l : List Bk) (k : Nat) (x : Bk) (h : l[k]? = some x) : sumW (l.take (k + 1)) = sumW (l.take k) + x.w := by
  obtain ⟨hk, rfl⟩ := List.getElem?_eq_some_iff.1 h
  unfold sumW
  rw [List.take_succ_eq_append_getElem hk, List.map_append, List.sum_append]
  simp
theorem sumW_bd (l : List Bk) (hw : ∀ b ∈ l, 0 ≤ b.w ∧ b.w ≤ 1000) : ∀ k, k ≤ l.length → 0 ≤ sumW (l.take k) ∧ sumW (l.take k) ≤ k * 1000
  | 0, _ => by simp [sumW]
  | k + 1, h => by
    have ih := sumW_bd l hw k (by omega)
    have hx := hw l[k] (List.getElem_mem (by omega))
    rw [sumW_take l k l[k] (List.getElem?_eq_getElem (by omega))]
    omega
set_option maxRecDepth 100000 in
set_option maxHeartbeats 2000000 in
theorem elig_weight (ver : Int) (l : List Bk) (A : Option Addr) (c : Nat) (w : World) (hr : Reads w w.heap.size 6 A l.length (l.flatMap Bk.cells)) (hl : l.length ≤ 1000000) (hw : ∀ b ∈ l, 0 ≤ b.w ∧ b.w ≤ 1000) :
    Calls Try.prog 136 #[.agg #[.int .i64 ver, .slice A l.length c]] w fun e w' => e = .returned (.int .i64 (sumW l)) ∧ Below w.heap.size w w' := by
  have B0 := Blk.new w 36 #[.int .i64 ver, .slice A l.length c]
  have hb0 : Below w.heap.size w (w.alloc (.cells #[.int .i64 ver, .slice A l.length c] 36)) := below_alloc (Below.refl _ _) _
  have s1 := B0.cell 1
  simp only [List.getElem?_toArray, List.getElem?_cons_zero, List.getElem?_cons_succ] at s1
  have hbd := sumW_bd l hw
  have hst := sumW_take l
  replace hbd := Lib.hid hbd
  replace hst := Lib.hid hst
  clear hw
  go_enter Try.func136, Try.ntmps136
  go_wp2_with fail
  generalize w.alloc (.cells #[.int .i64 ver, .slice A l.length c] 36) = w0 at *
  go_loopw [3, 9] (fun n i wr => ∃ k : Nat, k ≤ l.length ∧ i = .int .i64 (k : Nat) ∧ n = .int .i64 (sumW (l.take k)) ∧ Below w.heap.size w wr) (fun _ i _ => l.length - (intOf i).toNat)
  case atStart => exact ⟨0, by omega, rfl, by simp [sumW], hb0⟩
  case round =>
    obtain ⟨k, hk, rfl, rfl, hb⟩ := hrel
    clear hb0 s1 B0
    by_cases hlt : k < l.length
    · have hlti : (k : Int) < (l.length : Int) := by omega
      obtain ⟨ad, x, rfl, hbl, hx, c0, c1, c2, c3, c4, c5⟩ := bk_at (hr.below hb) hlt
      obtain ⟨b1, b2⟩ := hbd.out k hk
      have hst1 := hst.out k x hx
      have hb3 := (hbd.out (k + 1) (by omega)).2
      generalize sumW (l.take k) = sm at *
      rw [hst1] at hb3
      obtain ⟨b4, -⟩ := hbd.out (k + 1) (by omega)
      rw [hst1] at b4
      obtain ⟨xi, xw, xs, xv, xh, xo⟩ := x
      dsimp only at *
      replace hst1 := Lib.hid hst1
      replace hx := Lib.hid hx
      clear hr
      go_wp2_with fail
      go_roundw
      case rel => exact ⟨k + 1, by omega, by go_num, by rw [hst1.out], below_alloc hb _⟩
      case measure => simp [intOf]; omega
    · obtain rfl : k = l.length := by omega
      have hlti : ¬ (l.length : Int) < (l.length : Int) := by omega
      rw [List.take_length]
      clear hr
      go_wp2_with fail
      go_ret
      exact ⟨rfl, hb⟩
end Go.Proofs.Ytkpkjpdhlmjchaa
