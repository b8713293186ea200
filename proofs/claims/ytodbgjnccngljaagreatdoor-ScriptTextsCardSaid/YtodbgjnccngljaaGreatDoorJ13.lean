/- octet and its reference: Get; a text's bytes as a new row. Rows of bytes that a function appends to; a row of bytes as a text; the reference's octet: digit, value, Hex, Unhex. The reference's Unhex. -/
import Derived.Test.YtodbgjnccngljaaGreatDoorJ12
import Derived.Lib.ConvBytes
import Derived.Laws.Strings3
import Derived.Deep.RegionHeld3
import Derived.Laws.BytesArg
namespace Go.Proofs.YtodbgjnccngljaaGreatDoor
open Go Go.RowKit Go.Deep
theorem bytesWorld_below (w : World) (e : TypeId) (s : ByteArray) : Below w.heap.size w (Lib.bytesWorld w e s) :=
 ⟨rfl, rfl, rfl, by rw [Lib.bytesWorld_size]; omega, fun b hb => Lib.bytesWorld_at_old w e s b hb⟩
theorem str_size (l : List UInt8) : (ByteArray.mk l.toArray).size = l.length := rfl
theorem slice_piece (l : List UInt8) (a b : Nat) (W : World) (h : a ≤ b) (hb : b ≤ l.length) :
  (Instr.slice 9 (.string ⟨l.toArray⟩) (some (.int .i64 (a : Int))) (some (.int .i64 (b : Int))) none).run Tryz.prog W = .ok (.string ⟨((l.drop a).take (b - a)).toArray⟩) W := by
 rw [run_slice_string W 9 ⟨l.toArray⟩ .i64 .i64 (a : Int) (b : Int) Tryz.underlying9 (by omega) (by omega) (by rw [str_size]; omega)]
 rw [Int.toNat_natCast, Int.toNat_natCast, ByteArray.extract_mk]
theorem or_byte {n c : Nat} (hn : n < 72057594037927936) (hc : c < 256) : bits BinOp.or IntKind.u64 ((n : Int) * 256) (c : Int) = ((n * 256 + c : Nat) : Int) := by
 rw [show (n : Int) * 256 = ((n * 256 : Nat) : Int) by omega, or_u64 _ _ (by omega) (by omega)]
 have := Nat.two_pow_add_eq_or_of_lt (i := 8) (b := c) (by simpa using hc) n
 rw [show 2 ^ 8 * n = n * 256 by omega] at this
 rw [this]
theorem numB_take_succ (x : List UInt8) {j : Nat} (h : j < x.length) : numB (x.take (j + 1)) = numB (x.take j) * 256 + (x.getD j 0).toNat := by
 rw [List.take_add_one, List.getElem?_eq_getElem h]
 rw [List.getD_eq_getElem?_getD, List.getElem?_eq_getElem h]
 exact numB_snoc _ _
theorem numB_take_lt (x : List UInt8) (j k : Nat) (hk : 256 ^ j ≤ k) : numB (x.take j) < k := by
 have := numB_lt (x.take j)
 have h2 : 256 ^ (x.take j).length ≤ 256 ^ j := Nat.pow_le_pow_right (by decide) (by rw [List.length_take]; omega)
 omega
theorem pow256_le {j k : Nat} (h : j ≤ k) : 256 ^ j ≤ 256 ^ k := Nat.pow_le_pow_right (by decide) h
theorem idx_str (l : List UInt8) (i : Nat) (W : World) (h : i < l.length) :
  (Instr.index 9 (.string ⟨l.toArray⟩) (.int .i64 (i : Int))).run Tryz.prog W = .ok (.int .u8 ((l.getD i 0).toNat : Nat)) W := by
 rw [run_index_string W 9 ⟨l.toArray⟩ .i64 (i : Int) Tryz.underlying9, dif_pos ⟨by omega, by rw [str_size]; omega⟩]
 have e : (ByteArray.mk l.toArray)[(i : Int).toNat]'(by rw [str_size]; omega) = l.getD i 0 := by
  rw [List.getD_eq_getElem?_getD, List.getElem?_eq_getElem h]
  rfl
 rw [e]
set_option maxRecDepth 100000 in
set_option maxHeartbeats 4000000 in
theorem oct_get (l : List UInt8) (a k : Nat) (w : World) (h1 : 1 ≤ k) (h8 : k ≤ 8) (hl : a + k ≤ l.length) (hL : l.length ≤ 9223372036854775807) :
  Calls Tryz.prog 118 #[.string ⟨l.toArray⟩, .int .i64 a, .int .i64 k] w fun e w' => e = .returned (.tuple #[.int .u64 (numB ((l.drop a).take k) : Nat), .bool true]) ∧ Below w.heap.size w w' := by
 obtain ⟨x, hx⟩ : ∃ x, (l.drop a).take k = x := ⟨_, rfl⟩
 have hxl : x.length = k := by rw [← hx]; simp; omega
 rw [hx]
 have cv := Lib.run_convert_string_bytes (P := Tryz.prog) w 9 82 5 ⟨x.toArray⟩ Tryz.underlying9 Tryz.underlying82 Tryz.underlying5
 have hbW := bytesWorld_below w 5 ⟨x.toArray⟩
 have hcell := Lib.bytesWorld_cell w 5 ⟨x.toArray⟩
 have hsz := Lib.bytesWorld_size w 5 ⟨x.toArray⟩
 have hxs : (ByteArray.mk x.toArray).size = k := by rw [← hxl]; rfl
 rw [hxs] at hcell cv
 generalize Lib.bytesWorld w 5 ⟨x.toArray⟩ = W at *
 have s0 : ∀ W, (Instr.slice 9 (.string ⟨l.toArray⟩) (some (.int .i64 (a : Int))) (some (.int .i64 ((a : Int) + (k : Int)))) none).run Tryz.prog W = .ok (.string ⟨x.toArray⟩) W := fun W => by
  have := slice_piece l a (a + k) W (by omega) hl
  rw [show a + k - a = k by omega, hx, Int.natCast_add] at this
  exact this
 replace hx := Lib.hid hx
 have g1 : ¬ (k : Int) < 1 := by omega
 have g2 : ¬ (8 : Int) < (k : Int) := by omega
 have g3 : ¬ (l.length : Int) - (k : Int) < (a : Int) := by omega
 go_enter Tryz.func118, Tryz.ntmps118
 go_wp2_with fail
 clear cv s0 g1 g2 g3
 go_loopw [8, 37] (fun n i wr => ∃ j : Nat, j ≤ k ∧ i = .int .i64 (j : Nat) ∧ n = .int .u64 (numB (x.take j) : Nat) ∧ Below W.heap.size W wr) (fun _ i _ => k - (intOf i).toNat)
 case atStart => exact ⟨0, by omega, rfl, rfl, Below.refl _ _⟩
 case round =>
  obtain ⟨j, hj, rfl, rfl, hb⟩ := hrel
  by_cases hlt : j < k
  ·
   have hlti : (j : Int) < (k : Int) := by omega
   have c0 : wr.cell? ⟨w.heap.size, j, none⟩ = some (.int .u8 (x.getD j 0).toNat) := (World.cell?_of_block (hb.block _ (show w.heap.size < W.heap.size by omega))).trans (hcell j hlt)
   have hs := numB_take_succ x (j := j) (by omega)
   have hnl := numB_take_lt x j 72057594037927936 (Nat.le_trans (pow256_le (show j ≤ 7 by omega)) (by decide))
   have hcl : (x.getD j 0).toNat < 256 := (x.getD j 0).toNat_lt
   obtain ⟨c, hcd⟩ : ∃ c, (x.getD j 0).toNat = c := ⟨_, rfl⟩
   obtain ⟨n, hnd⟩ : ∃ n, numB (x.take j) = n := ⟨_, rfl⟩
   rw [hcd] at c0 hs hcl
   rw [hnd] at hs hnl ⊢
   have ho := or_byte hnl hcl
   have hw1 : IntKind.u64.wrap ((n : Int) * 256) = (n : Int) * 256 := by rw [IntKind.wrap_u64]; omega
   have hw2 : IntKind.u64.wrap (c : Int) = (c : Int) := by rw [IntKind.wrap_u64]; omega
   replace hs := Lib.hid hs
   replace hcd := Lib.hid hcd
   replace hnd := Lib.hid hnd
   clear hcell
   go_wp2_with fail
   go_roundw
   case rel => exact ⟨j + 1, by omega, by go_num, by rw [hs.out]; simp, hb⟩
   case measure => simp [intOf]; omega
  ·
   have hlti : ¬ (j : Int) < (k : Int) := by omega
   obtain rfl : j = k := by omega
   go_wp2_with fail
   go_ret2
   rw [show x.take j = x by rw [← hxl]; exact List.take_length]
   exact ⟨rfl, hbW.trans (hb.mono (by omega))⟩
set_option maxRecDepth 100000 in
set_option maxHeartbeats 4000000 in
theorem refoct_get (l : List UInt8) (a k : Nat) (w : World) (h1 : 1 ≤ k) (h8 : k ≤ 8) (hl : a + k ≤ l.length) (hL : l.length ≤ 9223372036854775807) :
  Calls Tryz.prog 78 #[.string ⟨l.toArray⟩, .int .i64 a, .int .i64 k] w fun e w' => e = .returned (.tuple #[.int .u64 (numB ((l.drop a).take k) : Nat), .bool true]) ∧ Below w.heap.size w w' := by
 obtain ⟨x, hx⟩ : ∃ x, (l.drop a).take k = x := ⟨_, rfl⟩
 have hxl : x.length = k := by rw [← hx]; simp; omega
 have hxj : ∀ j, j < k → l.getD (a + j) 0 = x.getD j 0 := by
  intro j hj
  rw [← hx, List.getD_eq_getElem?_getD, List.getD_eq_getElem?_getD, List.getElem?_take_of_lt hj, List.getElem?_drop]
 rw [hx]
 replace hx := Lib.hid hx
 have g1 : ¬ (k : Int) < 1 := by omega
 have g2 : ¬ (8 : Int) < (k : Int) := by omega
 have g3 : ¬ (l.length : Int) < (a : Int) := by omega
 have g4 : ¬ (l.length : Int) - (a : Int) < (k : Int) := by omega
 go_enter Tryz.func78, Tryz.ntmps78
 go_wp2_with fail
 clear g1 g2 g3 g4
 go_loopw [8, 9] (fun n i wr => ∃ j : Nat, j ≤ k ∧ i = .int .i64 (j : Nat) ∧ n = .int .u64 (numB (x.take j) : Nat) ∧ Below w.heap.size w wr) (fun _ i _ => k - (intOf i).toNat)
 case atStart => exact ⟨0, by omega, rfl, rfl, Below.refl _ _⟩
 case round =>
  obtain ⟨j, hj, rfl, rfl, hb⟩ := hrel
  by_cases hlt : j < k
  ·
   have hlti : (j : Int) < (k : Int) := by omega
   have hi0 := idx_str l (a + j) wr (by omega)
   rw [hxj j hlt, Int.natCast_add] at hi0
   have hs := numB_take_succ x (j := j) (by omega)
   have hnl := numB_take_lt x j 72057594037927936 (Nat.le_trans (pow256_le (show j ≤ 7 by omega)) (by decide))
   have hcl : (x.getD j 0).toNat < 256 := (x.getD j 0).toNat_lt
   obtain ⟨c, hcd⟩ : ∃ c, (x.getD j 0).toNat = c := ⟨_, rfl⟩
   obtain ⟨n, hnd⟩ : ∃ n, numB (x.take j) = n := ⟨_, rfl⟩
   rw [hcd] at hi0 hs hcl
   rw [hnd] at hs hnl ⊢
   have hw1 : IntKind.u64.wrap ((n : Int) * 256) = (n : Int) * 256 := by rw [IntKind.wrap_u64]; omega
   have hw2 : IntKind.u64.wrap (c : Int) = (c : Int) := by rw [IntKind.wrap_u64]; omega
   have hw3 : IntKind.u64.wrap ((n : Int) * 256 + (c : Int)) = (n : Int) * 256 + (c : Int) := by rw [IntKind.wrap_u64]; omega
   replace hs := Lib.hid hs
   replace hcd := Lib.hid hcd
   replace hnd := Lib.hid hnd
   clear hxj
   go_wp2_with fail
   go_roundw
   case rel => exact ⟨j + 1, by omega, by go_num, by rw [hs.out]; simp, hb⟩
   case measure => simp [intOf]; omega
  ·
   have hlti : ¬ (j : Int) < (k : Int) := by omega
   obtain rfl : j = k := by omega
   go_wp2_with fail
   go_ret2
   rw [show x.take j = x by rw [← hxl]; exact List.take_length]
   exact ⟨rfl, hb⟩
attribute [local go_sem] Oper.semAt_some
abbrev bc (c : UInt8) : List Value := [.int .u8 (c.toNat : Nat)]
abbrev OwnU (w : World) (base : Nat) (A : Option Addr) (c : Nat) (l : List UInt8) : Prop := OwnA bc 1 5 w base A c l
theorem info_byte : (Tryz.prog.info? 5).map (fun i => (i.zero, i.size, i.bytes)) = some (some (.int .u8 0), 1, 1) := by kernel_rfl
theorem bc_one (c : UInt8) : ∀ u ∈ bc c, u.oneCell' = true := by intro u hu; simp at hu; subst hu; rfl
theorem bc_flat (l : List UInt8) : l.flatMap bc = Lib.byteCells l := by
 induction l with
 | nil => rfl
 | cons c l ih => rw [List.flatMap_cons, ih]; rfl
section
variable {W : World} {ops : Array Oper} {o : Oper} {a : Act} {K : Act → World → Prop} {Q : Exit → Act → World → Prop} {E : Prop}
theorem step_push_u8 (hgd : o.guard = none) (s x : Operand)
  (ho : o.op = .call { callee := .builtin .append, args := #[s, x], argTypes := #[82, 82] })
  (base : Nat) (A : Option Addr) (c : Nat) (l : List UInt8) (n : Nat) (hn : l.length = n) (hs : a.eval s = .slice A n c) (hown : OwnU W base A c l) (g : Nat) (hg : g = W.heap.size) (x1 x2 : Int) (c1 c2 : UInt8) (h1 : x1 = c1.toNat) (h2 : x2 = c2.toNat)
  (hx : a.eval x = .slice (some ⟨g, 0, none⟩) 2 2) (hl : n ≤ 1000000000) (hbase : base ≤ W.heap.size)
  (h : ∀ A' c' w', OwnU w' base A' c' (l ++ [c1, c2]) → Pushed W w' A A' → K (a.put o.dst (.slice A' (n + 2) c')) w') :
  if Region.wanted o (yielded ops a.tmps) = true then Oper.wp Tryz.prog o a (W.alloc (.cells #[.int .u8 x1, .int .u8 x2] 5)) K Q else E := by
 subst hn hg h1 h2
 obtain ⟨i0, hi0, hz0, hz1, hz2⟩ := info_parts info_byte
 refine step_append_sl _ hgd s x 82 ho base 5 i0 _ 1 1 Tryz.underlying82 hi0 hz0 hz1 hz2 rfl (by decide) (.slice A l.length c) l.length (l.flatMap bc) hs (hown.alloc _) (W.heap.size + 1) (some ⟨W.heap.size, 0, none⟩) 2 2 [.int .u8 (c1.toNat : Nat), .int .u8 (c2.toNat : Nat)] hx
  (lits_read W _ 1 2 5 [.int .u8 (c1.toNat : Nat), .int .u8 (c2.toNat : Nat)] rfl (by omega)) (fun u hu => by simp at hu; rcases hu with rfl | rfl <;> rfl) (by unfold maxLen; omega) (by omega) (by simp; omega) ?_
 intro A' c' w' hown' hg' hat
 have hA : ∀ k, (Value.slice A l.length c).ownBlock = some k ↔ InB A k := hown.own_block
 have hO : OwnU w' base A' c' (l ++ [c1, c2]) := by
  unfold OwnU OwnA
  rw [List.length_append, List.flatMap_append]
  exact hown'
 refine h A' c' w' hO ⟨?_, ?_⟩
 · exact ((Chg.refl _ W).alloc _).grown hg' (fun k hk _ => (hA k).1 hk)
 ·
  intro b hb
  have e1 : (Value.slice A' (l.length + 2) c').ownBlock = some b := by
   have := (hO.own_block b).2 hb
   simpa [Value.ownBlock] using this
  rcases hat with h2 | h2
  ·
   rw [h2] at e1
   exact .inl ((hA b).1 e1)
  ·
   rw [h2] at e1
   simp at e1
   exact .inr (by omega)
theorem wpList_push_u8 {rest : List Oper} (hgd : o.guard = none) (s x : Operand)
  (ho : o.op = .call { callee := .builtin .append, args := #[s, x], argTypes := #[82, 82] })
  (base : Nat) (A : Option Addr) (c : Nat) (l : List UInt8) (n : Nat) (hn : l.length = n) (hs : a.eval s = .slice A n c) (hown : OwnU W base A c l) (g : Nat) (hg : g = W.heap.size) (x1 : Int) (c1 : UInt8) (h1 : x1 = c1.toNat)
  (hx : a.eval x = .slice (some ⟨g, 0, none⟩) 1 1) (hl : n ≤ 1000000) (hbase : base ≤ W.heap.size)
  (h : ∀ A' c' w', OwnU w' base A' c' (l ++ [c1]) → Pushed W w' A A' → wpList Tryz.prog ops Q rest (a.put o.dst (.slice A' (n + 1) c')) w') : wpList Tryz.prog ops Q (o :: rest) a (W.alloc (.cells #[.int .u8 x1] 5)) := by
 obtain ⟨i0, hi0, hz0, hz1, hz2⟩ := info_parts info_byte
 exact wpList_push bc 1 (fun _ => rfl) bc_one (by omega) 82 i0 _ 1 Tryz.underlying82 hi0 hz0 hz1 hz2 rfl (by omega) hgd s x ho base A c l c1 n hn hs hown g hg (by subst h1; rfl) hx (by omega) hbase h
end
theorem conv_back {w : World} {base : Nat} {A : Option Addr} {c : Nat} {l : List UInt8} (h : OwnU w base A c l) :
  (convert 82 9 (.slice A l.length c)).run Tryz.prog w = .ok (.string ⟨l.toArray⟩) w := by
 cases A with
 | none =>
  have h0 : l = [] := by
   rcases h.2 with ⟨_, h0⟩ | ⟨g, cap, cur, hv, _⟩
   · exact List.length_eq_zero_iff.1 h0
   · cases hv
  subst h0
  exact run_convert_bytes_nil w 82 5 Tryz.underlying82 Tryz.underlying5 0 c 9 Tryz.underlying9
 | some ad =>
  refine run_convert_bytes_back (P := Tryz.prog) w 82 9 5 ad c l Tryz.underlying82 Tryz.underlying5 Tryz.underlying9 (fun j hj => ?_)
  obtain ⟨ad', he, _, hc⟩ := h.reads.2 (by omega)
  cases he
  refine hc j _ ?_
  rw [bc_flat]
  simp [Lib.byteCells, hj]
theorem ref_digit (n : Nat) (w : World) (h : n < 16) : Calls Tryz.prog 72 #[.int .i64 n] w fun e w' => e = .returned (.int .u8 ((hexd n).toNat : Nat)) ∧ w' = w := by
 have hx : ((hexd n).toNat : Int) = if n < 10 then 48 + (n : Int) else 87 + (n : Int) := by
  unfold hexd
  rw [UInt8.toNat_ofNat']
  split <;> omega
 rw [hx]
 by_cases h1 : n < 10
 ·
  rw [if_pos h1]
  have g : (n : Int) < 10 := by omega
  have g2 : IntKind.u8.wrap (48 + (n : Int)) = 48 + (n : Int) := by rw [IntKind.wrap_u8]; omega
  clear hx
  go_enter Tryz.func72, Tryz.ntmps72
  go_wp2_with fail
  go_ret
  exact ⟨rfl, rfl⟩
 ·
  rw [if_neg h1]
  have g : ¬ (n : Int) < 10 := by omega
  have g2 : IntKind.u8.wrap (97 + (n : Int) - 10) = 87 + (n : Int) := by rw [IntKind.wrap_u8]; omega
  clear hx
  go_enter Tryz.func72, Tryz.ntmps72
  go_wp2_with fail
  go_ret
  exact ⟨by simp, rfl⟩
def hexN (c : UInt8) : Int := match hexv c with | some n => (n : Int) | none => -1
theorem hexN_some {c : UInt8} {k : Nat} (hk : k < 16) (h : hexd k = c) : hexN c = (k : Int) := by
 unfold hexN; rw [← h, hexv_hexd hk]
theorem hexN_none {c : UInt8} (h : ∀ j, j < 16 → hexd j ≠ c) : hexN c = -1 := by
 unfold hexN
 cases hv : hexv c with
 | none => rfl
 | some n =>
  obtain ⟨h1, h2⟩ := hexd_hexv hv
  exact absurd h1 (h n h2)
set_option maxRecDepth 100000 in
set_option maxHeartbeats 2000000 in
theorem ref_value (c : UInt8) (w : World) : Calls Tryz.prog 62 #[.int .u8 (c.toNat : Nat)] w fun e w' => e = .returned (.int .i64 (hexN c)) ∧ w' = w := by
 go_enter Tryz.func62, Tryz.ntmps62
 go_wp2_with fail
 go_loopw [3] (fun i wr => ∃ k : Nat, k ≤ 16 ∧ i = .int .i64 (k : Nat) ∧ (∀ j, j < k → hexd j ≠ c) ∧ wr = w) (fun i _ => 16 - (intOf i).toNat)
 case atStart => exact ⟨0, by omega, rfl, fun j hj => by omega, rfl⟩
 case round =>
  obtain ⟨k, hk, rfl, hno, rfl⟩ := hrel
  by_cases hlt : k < 16
  ·
   have hlti : (k : Int) < 16 := by omega
   have D := Lib.hid (ref_digit k wr hlt)
   by_cases he : hexd k = c
   ·
    have hb : (((hexd k).toNat : Int) == (c.toNat : Int)) = true := by rw [he]; simp
    have hN := hexN_some hlt he
    replace he := Lib.hid he
    replace hno := Lib.hid hno
    go_wp2_with (go_at_call 72; refine D.out.mono ?_; rintro e w5 ⟨rfl, rfl⟩)
    go_ret
    exact ⟨by rw [hN]; rfl, rfl⟩
   ·
    have hb : (((hexd k).toNat : Int) == (c.toNat : Int)) = false := by
     rw [beq_eq_false_iff_ne]
     intro e
     exact he (UInt8.toNat_inj.1 (by omega))
    have hno2 : ∀ j, j < k + 1 → hexd j ≠ c := fun j hj => by
     by_cases e : j = k
     · subst e; exact he
     · exact hno j (by omega)
    replace he := Lib.hid he
    replace hno := Lib.hid hno
    replace hno2 := Lib.hid hno2
    go_wp2_with (go_at_call 72; refine D.out.mono ?_; rintro e w5 ⟨rfl, rfl⟩)
    go_roundw
    case rel => exact ⟨k + 1, by omega, by go_num, hno2.out, trivial⟩
    case measure => simp [intOf]; omega
  ·
   have hlti : ¬ (k : Int) < 16 := by omega
   obtain rfl : k = 16 := by omega
   have hN := hexN_none hno
   replace hno := Lib.hid hno
   go_wp2_with fail
   go_ret
   exact ⟨by first | rfl | (rw [hN]; rfl), rfl⟩
set_option maxRecDepth 100000 in
set_option maxHeartbeats 4000000 in
theorem ref_hex (l : List UInt8) (w : World) (hL : l.length ≤ 100000000) :
  Calls Tryz.prog 52 #[.string ⟨l.toArray⟩] w fun e w' => e = .returned (.string ⟨(hexL l).toArray⟩) ∧ Below w.heap.size w w' := by
 go_enter Tryz.func52, Tryz.ntmps52
 go_wp2_with fail
 go_loopw [3, 4] (fun s i wr => ∃ (j : Nat) (A : Option Addr) (cp : Nat), j ≤ l.length ∧ i = .int .i64 (j : Nat) ∧ s = .slice A (2 * j) cp ∧ OwnU wr w.heap.size A cp (hexL (l.take j)) ∧ Below w.heap.size w wr) (fun _ i _ => l.length - (intOf i).toNat)
 case atStart => exact ⟨0, none, 0, by omega, rfl, rfl, OwnA.nil _ _, Below.refl _ _⟩
 case round =>
  obtain ⟨j, A, cp, hj, rfl, rfl, hO, hb⟩ := hrel
  by_cases hlt : j < l.length
  ·
   have hlti : (j : Int) < (l.length : Int) := by omega
   have hi0 := fun W => idx_str l j W hlt
   have hs : hexL (l.take (j + 1)) = hexL (l.take j) ++ [hexd ((l.getD j 0).toNat / 16), hexd ((l.getD j 0).toNat % 16)] := by
    rw [List.take_add_one, List.getElem?_eq_getElem hlt]
    unfold hexL
    rw [List.flatMap_append, List.getD_eq_getElem?_getD, List.getElem?_eq_getElem hlt]
    simp
   have hl0 : (hexL (l.take j)).length = 2 * j := by rw [hexL_len, List.length_take, Nat.min_eq_left hj]
   have hcl : (l.getD j 0).toNat < 256 := (l.getD j 0).toNat_lt
   obtain ⟨c, hcd⟩ : ∃ c, (l.getD j 0).toNat = c := ⟨_, rfl⟩
   obtain ⟨p, hpd⟩ : ∃ p, hexL (l.take j) = p := ⟨_, rfl⟩
   rw [hcd] at hi0 hs hcl
   rw [hpd] at hs hl0 hO
   obtain ⟨q, hq⟩ : ∃ q, c / 16 = q := ⟨_, rfl⟩
   obtain ⟨r, hr⟩ : ∃ r, c % 16 = r := ⟨_, rfl⟩
   have hq16 : q < 16 := by omega
   have hr16 : r < 16 := by omega
   have t1 : IntKind.i64.wrap (c : Int) = (c : Int) := by rw [IntKind.wrap_i64]; omega
   have t2 : (c : Int).tdiv 16 = (q : Int) := by rw [← hq]; simp [Int.tdiv]
   have t3 : (c : Int).tmod 16 = (r : Int) := by rw [← hr]; simp [Int.tmod]
   have t4 : IntKind.i64.wrap (q : Int) = (q : Int) := by rw [IntKind.wrap_i64]; omega
   have t5 : IntKind.i64.wrap (r : Int) = (r : Int) := by rw [IntKind.wrap_i64]; omega
   rw [hq, hr] at hs
   have D1 := Lib.hid (fun W => ref_digit q W hq16)
   have D2 := Lib.hid (fun W => ref_digit r W hr16)
   replace hs := Lib.hid hs
   replace hcd := Lib.hid hcd
   replace hpd := Lib.hid hpd
   replace hq := Lib.hid hq
   replace hr := Lib.hid hr
   replace hO := Lib.hid hO
   replace hl0 := Lib.hid hl0
   have hsz := hb.size
   go_wp2_with fail
   have hbd : Below w.heap.size w wr.drew := hb.drew
   go_region_held3 (fun W => Below w.heap.size w W) ((first | assumption | exact below_alloc (by assumption) _)) (first
    | (go_at_call 72; (first | (with_reducible refine (D1.out _).mono ?_) | (with_reducible refine (D2.out _).mono ?_)); rintro e w5 ⟨rfl, rfl⟩)
    | (refine step_push_u8 rfl (.tmp 11) (.tmp 24) rfl w.heap.size A cp p _ hl0.out rfl hO.out.drew _ rfl _ _ (hexd q) (hexd r) rfl rfl rfl (by omega) hsz ?_; intro A2 p2 w7 ho7 hp7; have hS7 := hp7.below (w0 := w) (B := w.heap.size) hbd hsz (fun b hb => (hO.out.block hb).1)))
   all_goals
    rw [← hs.out] at ho7
    replace ho7 := Lib.hid ho7
    go_wp2_with fail
    go_roundw
    case rel => exact ⟨j + 1, A2, p2, by omega, by go_num, rfl, ho7.out, hS7⟩
    case measure => simp [intOf]; omega
  ·
   have hlti : ¬ (j : Int) < (l.length : Int) := by omega
   obtain rfl : j = l.length := by omega
   rw [List.take_length] at hO
   have cvb := conv_back hO
   rw [hexL_len] at cvb
   replace hO := Lib.hid hO
   go_wp2_with fail
   go_ret
   exact ⟨rfl, hb⟩
end Go.Proofs.YtodbgjnccngljaaGreatDoor
namespace Go.Proofs.YtodbgjnccngljaaGreatDoor
open Go Go.RowKit Go.Deep
attribute [local go_sem] Oper.semAt_some
theorem unhexL_append : ∀ (n : Nat) (a b : List UInt8), a.length = 2 * n → unhexL (a ++ b) = (unhexL a).bind fun x => (unhexL b).map (x ++ ·)
 | 0, a, b, h => by
  obtain rfl : a = [] := List.length_eq_zero_iff.1 (by omega)
  show unhexL b = (some []).bind fun x => (unhexL b).map (x ++ ·)
  cases unhexL b <;> simp
 | n + 1, a, b, h => by
  match a, h with
  | x :: y :: r, h =>
   have ih := unhexL_append n r b (by simp at h; omega)
   rw [List.cons_append, List.cons_append, unhexL, unhexL, ih]
   cases hexv x <;> cases hexv y <;> cases unhexL r <;> cases unhexL b <;> simp
theorem unhexL_odd {l : List UInt8} (h : l.length % 2 = 1) : unhexL l = none := by
 cases hu : unhexL l with
 | none => rfl
 | some b => have := unhexL_len l b hu; omega
theorem unhexL_bad {l : List UInt8} {i : Nat} (h : i < l.length) (hv : hexv (l.getD i 0) = none) : unhexL l = none := by
 cases hu : unhexL l with
 | none => rfl
 | some b =>
  have e := hex_unhex l b hu
  have hm : l.getD i 0 ∈ hexL b := by rw [e, List.getD_eq_getElem?_getD, List.getElem?_eq_getElem h]; simp
  have := hexL_isHex b _ hm
  unfold isHex at this
  unfold hexv at hv
  split at hv
  · cases hv
  ·
   split at hv
   · cases hv
   · omega
theorem unhexL_step {l : List UInt8} {m a b : Nat} {p : List UInt8} (h : 2 * m + 1 < l.length) (hp : unhexL (l.take (2 * m)) = some p) (ha : hexv (l.getD (2 * m) 0) = some a) (hb : hexv (l.getD (2 * m + 1) 0) = some b) :
  unhexL (l.take (2 * (m + 1))) = some (p ++ [UInt8.ofNat (16 * a + b)]) := by
 have e : l.take (2 * (m + 1)) = l.take (2 * m) ++ [l.getD (2 * m) 0, l.getD (2 * m + 1) 0] := by
  rw [show 2 * (m + 1) = 2 * m + 1 + 1 by omega, List.take_add_one, List.take_add_one]
  rw [List.getD_eq_getElem?_getD, List.getD_eq_getElem?_getD, List.getElem?_eq_getElem (show 2 * m < l.length by omega), List.getElem?_eq_getElem h]
  simp only [Option.toList_some, List.append_assoc, List.singleton_append, Option.getD_some]
 rw [e, unhexL_append m _ _ (by rw [List.length_take]; omega), hp]
 have e2 : unhexL [l.getD (2 * m) 0, l.getD (2 * m + 1) 0] = some [UInt8.ofNat (16 * a + b)] := by
  rw [unhexL, ha, hb]; rfl
 rw [e2]; rfl
def unhexV (l : List UInt8) : Value := match unhexL l with
 | some b => .tuple #[.string ⟨b.toArray⟩, .bool true]
 | none => .tuple #[.string ⟨#[]⟩, .bool false]
theorem hexN_of {c : UInt8} : (hexv c = none ∧ hexN c = -1) ∨ ∃ n, n < 16 ∧ hexv c = some n ∧ hexN c = (n : Int) := by
 unfold hexN
 cases h : hexv c with
 | none => exact Or.inl ⟨rfl, rfl⟩
 | some n => exact Or.inr ⟨n, (hexd_hexv h).2, rfl, rfl⟩
set_option maxRecDepth 100000 in
set_option maxHeartbeats 4000000 in
theorem ref_unhex (l : List UInt8) (w : World) (hL : l.length ≤ 1000000) :
  Calls Tryz.prog 34 #[.string ⟨l.toArray⟩] w fun e w' => e = .returned (unhexV l) ∧ Below w.heap.size w w' := by
 go_enter Tryz.func34, Tryz.ntmps34
 go_wp2_with fail
 go_loopw [4, 5] (fun s i wr => ∃ (m : Nat) (A : Option Addr) (cp : Nat) (p : List UInt8), 2 * m ≤ l.length ∧ i = .int .i64 ((2 * m : Nat) : Int) ∧ s = .slice A m cp ∧ p.length = m ∧ unhexL (l.take (2 * m)) = some p ∧ OwnU wr w.heap.size A cp p ∧ Below w.heap.size w wr) (fun _ i _ => l.length - (intOf i).toNat)
 case atStart => exact ⟨0, none, 0, [], by omega, rfl, rfl, rfl, rfl, OwnA.nil _ _, Below.refl _ _⟩
 case round =>
  obtain ⟨m, A, cp, p, hm, rfl, rfl, hpl, hp, hO, hb⟩ := hrel
  by_cases hlt : 2 * m + 1 < l.length
  ·
   have hlti : ((2 * m : Nat) : Int) + 1 < (l.length : Int) := by omega
   have hi0 := fun W => idx_str l (2 * m) W (by omega)
   have hi1 := fun W => idx_str l (2 * m + 1) W hlt
   have U := fun a b => unhexL_step (a := a) (b := b) hlt hp
   have B0 := unhexL_bad (l := l) (i := 2 * m) (by omega)
   have B1 := unhexL_bad (l := l) (i := 2 * m + 1) hlt
   rw [show ((2 * m + 1 : Nat) : Int) = ((2 * m : Nat) : Int) + 1 by omega] at hi1
   obtain ⟨c0, hc0⟩ : ∃ c, l.getD (2 * m) 0 = c := ⟨_, rfl⟩
   obtain ⟨c1, hc1⟩ : ∃ c, l.getD (2 * m + 1) 0 = c := ⟨_, rfl⟩
   rw [hc0] at hi0 U B0
   rw [hc1] at hi1 U B1
   have D0 := Lib.hid (fun W => ref_value c0 W)
   have D1 := Lib.hid (fun W => ref_value c1 W)
   obtain ⟨n0, hn0⟩ : ∃ n, hexN c0 = n := ⟨_, rfl⟩
   obtain ⟨n1, hn1⟩ : ∃ n, hexN c1 = n := ⟨_, rfl⟩
   rw [hn0] at D0
   rw [hn1] at D1
   have V0 := hexN_of (c := c0)
   have V1 := hexN_of (c := c1)
   rw [hn0] at V0
   rw [hn1] at V1
   obtain ⟨ii, hii⟩ : ∃ ii, ((2 * m : Nat) : Int) = ii := ⟨_, rfl⟩
   rw [hii] at hi0 hi1 hlti ⊢
   replace hii := Lib.hid hii
   replace U := Lib.hid U
   replace B0 := Lib.hid B0
   replace B1 := Lib.hid B1
   replace V0 := Lib.hid V0
   replace V1 := Lib.hid V1
   replace hc0 := Lib.hid hc0
   replace hc1 := Lib.hid hc1
   replace hn0 := Lib.hid hn0
   replace hn1 := Lib.hid hn1
   replace hp := Lib.hid hp
   replace hO := Lib.hid hO
   have hsz := hb.size
   have hx0 : 0 ≤ ii := by have := hii.out; omega
   have hx1 : ii + 1 < 9000000000 := by have := hii.out; omega
   have hwr : IntKind.i64.wrap (ii + 1) = ii + 1 := by rw [IntKind.wrap_i64]; omega
   go_wp2_with fail
   go_region_held3 (fun W => Below wr.heap.size wr W) ((first | assumption | exact (Below.refl _ _).drew | exact Below.refl _ _)) (first
    | (go_at_call 62; (first | (with_reducible refine (D0.out _).mono ?_) | (with_reducible refine (D1.out _).mono ?_)); rintro e w5 ⟨rfl, rfl⟩))
   all_goals
    by_cases h0 : n0 < 0
    ·
     have z : unhexL l = none := by
      rcases V0.out with ⟨v, _⟩ | ⟨n, _, _, e⟩
      · exact B0.out v
      · omega
     replace z := Lib.hid z
     go_wp2_with fail
     go_ret2
     exact ⟨by unfold unhexV; rw [z.out]; rfl, hb.drew⟩
    ·
     by_cases h1 : n1 < 0
     ·
      have z : unhexL l = none := by
       rcases V1.out with ⟨v, _⟩ | ⟨n, _, _, e⟩
       · exact B1.out v
       · omega
      replace z := Lib.hid z
      go_wp2_with fail
      go_ret2
      exact ⟨by unfold unhexV; rw [z.out]; rfl, hb.drew⟩
     ·
      obtain ⟨a, ha, va, rfl⟩ : ∃ n, n < 16 ∧ hexv c0 = some n ∧ n0 = (n : Int) := by
       rcases V0.out with ⟨_, e⟩ | h
       · omega
       · exact h
      obtain ⟨b, hb16, vb, rfl⟩ : ∃ n, n < 16 ∧ hexv c1 = some n ∧ n1 = (n : Int) := by
       rcases V1.out with ⟨_, e⟩ | h
       · omega
       · exact h
      have hU := Lib.hid (U.out a b va vb)
      have hu8 : IntKind.u8.wrap (16 * (a : Int) + (b : Int)) = ((UInt8.ofNat (16 * a + b)).toNat : Int) := by
       rw [IntKind.wrap_u8, UInt8.toNat_ofNat']; omega
      generalize UInt8.ofNat (16 * a + b) = cc at *
      clear h0 h1 hi0 hi1
      replace va := Lib.hid va
      replace vb := Lib.hid vb
      have h0 : ¬ (a : Int) < 0 := by omega
      have h1 : ¬ (b : Int) < 0 := by omega
      replace hpl := Lib.hid hpl
      have hbd : Below w.heap.size w wr.drew := hb.drew
      go_wp2_with (at_builtin; refine wpList_push_u8 rfl (.tmp 30) (.tmp 36) rfl w.heap.size A cp p _ hpl.out rfl hO.out.drew _ rfl _ cc rfl rfl (by omega) hsz ?_; intro A2 p2 w7 ho7 hp7)
      have hS7 := hp7.below (w0 := w) (B := w.heap.size) hbd hsz (fun b hb => (hO.out.block hb).1)
      replace ho7 := Lib.hid ho7
      go_wp2_with fail
      go_roundw
      case rel => exact ⟨m + 1, A2, p2, p ++ [cc], by omega, by rw [← hii.out]; go_num, rfl, by simp [hpl.out], hU.out, ho7.out, hS7⟩
      case measure => simp [intOf]; omega
  ·
   have hlti : ¬ ((2 * m : Nat) : Int) + 1 < (l.length : Int) := by omega
   obtain ⟨ii, hii⟩ : ∃ ii, ((2 * m : Nat) : Int) = ii := ⟨_, rfl⟩
   rw [hii] at hlti ⊢
   replace hii := Lib.hid hii
   have hx0 : 0 ≤ ii := by have := hii.out; omega
   have hx1 : ii + 1 < 9000000000 := by have := hii.out; omega
   have ht : (l.length : Int).tmod 2 = ((l.length % 2 : Nat) : Int) := by simp [Int.tmod]
   by_cases ho : l.length % 2 = 1
   ·
    rw [ho] at ht
    have z := Lib.hid (unhexL_odd ho)
    replace hp := Lib.hid hp
    go_wp2_with fail
    go_ret2
    exact ⟨by unfold unhexV; rw [z.out]; rfl, hb⟩
   ·
    rw [show l.length % 2 = 0 by omega] at ht
    rw [List.take_of_length_le (by omega)] at hp
    have cvb := conv_back hO
    rw [hpl] at cvb
    replace hp := Lib.hid hp
    replace hO := Lib.hid hO
    go_wp2_with fail
    go_ret2
    exact ⟨by unfold unhexV; rw [hp.out]; rfl, hb⟩
end Go.Proofs.YtodbgjnccngljaaGreatDoor
