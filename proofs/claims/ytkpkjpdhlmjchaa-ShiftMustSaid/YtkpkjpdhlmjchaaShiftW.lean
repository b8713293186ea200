/- shift: Of at any two sets, the code's and the document's; Share. -/
import Derived.Test.YtkpkjpdhlmjchaaShiftT
namespace Go.Proofs.Ytkpkjpdhlmjchaa
open Go Go.RowKit Go.Deep

set_option maxRecDepth 100000 in
set_option maxHeartbeats 2000000 in
theorem refof_e1 (l : List Bk) (A : Option Addr) (c : Nat) (o : List Bk) (B : Option Addr) (d : Nat) (ka kb m : Int) (w : World) (he : newE m l.length ≠ 0) :
    Calls Try.prog 14 #[.slice A l.length c, .slice B o.length d, .agg #[.int .u64 ka, .int .u64 kb], .int .i64 m] w fun e w' => e = .returned (.tuple #[.agg (mvArr 0 0 0 0), .int .i64 (newE m l.length)]) ∧ Below w.heap.size w w' := by
  have N1 := fun W => refnew_none l A c ka kb m W he
  obtain ⟨er, her⟩ : ∃ er, newE m l.length = er := ⟨_, rfl⟩
  rw [her] at N1 he ⊢
  have heb : (er != 0) = true := by simpa using he
  obtain ⟨w0, hw0⟩ : ∃ w0, w0 = (w.alloc (.cells #[.int .u64 ka, .int .u64 kb] 25)).alloc (.cells (mvArr 0 0 0 0) 27) := ⟨_, rfl⟩
  have hb0 : Below w.heap.size w w0 := hw0 ▸ below_alloc (below_alloc (Below.refl _ _) _) _
  have R0 : Blk w0 (w.heap.size + 1) 27 (mvArr 0 0 0 0) := by
    have := Blk.new (w.alloc (.cells #[.int .u64 ka, .int .u64 kb] 25)) 27 (mvArr 0 0 0 0)
    rw [← hw0] at this
    simpa using this
  replace N1 := Lib.hid N1
  replace he := Lib.hid he
  replace her := Lib.hid her
  go_enter Try.func14, Try.ntmps14
  go_wp2_with fail
  rw [← hw0]
  clear hw0
  refine (N1.out _).mono ?_
  rintro e w1 ⟨rfl, hb1⟩
  have R1 := R0.call hb1
  have hb := below_chain hb1 hb0
  clear hb1 R0 hb0 N1
  obtain ⟨⟨b0, b1, b2, b3⟩, s0, s1, s2, s3⟩ := R1.four
  have hfin := blk_set4 (a0 := .int .i64 0) (a1 := .int .i64 0) (a2 := .int .i64 0) (a3 := .int .i64 0) R1
  obtain ⟨⟨f0, f1, f2, f3⟩, -⟩ := hfin.four
  clear hfin R1
  go_wp2_with fail
  refine bodyPost_ret (v := .tuple #[.agg (mvArr 0 0 0 0), .int .i64 er]) (by simp [results, Try.results14, go_sem, f0, f1, f2, f3]) rfl ?_
  exact ⟨rfl, (((hb.setCell (by simp) _).setCell (by simp) _).setCell (by simp) _).setCell (by simp) _⟩
set_option maxRecDepth 100000 in
set_option maxHeartbeats 4000000 in
theorem refof_e2 (l : List Bk) (A : Option Addr) (c : Nat) (o : List Bk) (B : Option Addr) (d : Nat) (ka kb : Int) (m : Nat) (w : World) (hr : Reads w w.heap.size 6 A l.length (l.flatMap Bk.cells)) (hm : m = 13 ∨ m = 251) (h0 : 0 < l.length) (hlm : l.length ≤ m)
    (hid : ∀ b ∈ l, 1 ≤ b.id ∧ b.id ≤ 65535) (he : newE m o.length ≠ 0) :
    Calls Try.prog 14 #[.slice A l.length c, .slice B o.length d, .agg #[.int .u64 ka, .int .u64 kb], .int .i64 (m : Int)] w fun e w' => e = .returned (.tuple #[.agg (mvArr 0 0 0 0), .int .i64 (newE m o.length)]) ∧ Below w.heap.size w w' := by
  have N1 := fun W (hb : Below w.heap.size w W) => refnew_some l A c ka kb m W ((hr.below hb).more hb.size) hm h0 hlm hid
  have N2 := fun W => refnew_none o B d ka kb m W he
  obtain ⟨er, her⟩ : ∃ er, newE m o.length = er := ⟨_, rfl⟩
  rw [her] at N2 he ⊢
  have heb : (er != 0) = true := by simpa using he
  obtain ⟨w0, hw0⟩ : ∃ w0, w0 = (w.alloc (.cells #[.int .u64 ka, .int .u64 kb] 25)).alloc (.cells (mvArr 0 0 0 0) 27) := ⟨_, rfl⟩
  have hb0 : Below w.heap.size w w0 := hw0 ▸ below_alloc (below_alloc (Below.refl _ _) _) _
  have K0 : Blk w0 w.heap.size 25 #[.int .u64 ka, .int .u64 kb] := hw0 ▸ (Blk.new w _ _).alloc _
  have R0 : Blk w0 (w.heap.size + 1) 27 (mvArr 0 0 0 0) := by
    have := Blk.new (w.alloc (.cells #[.int .u64 ka, .int .u64 kb] 25)) 27 (mvArr 0 0 0 0)
    rw [← hw0] at this
    simpa using this
  have k0 := K0.cell 0
  have k1 := K0.cell 1
  simp at k0 k1
  replace N1 := Lib.hid N1
  replace N2 := Lib.hid N2
  replace he := Lib.hid he
  replace her := Lib.hid her
  clear hr hid h0 hlm
  go_enter Try.func14, Try.ntmps14
  go_wp2_with fail
  rw [← hw0]
  clear hw0
  refine (N1.out _ hb0).mono ?_
  rintro e w1 ⟨gp, rfl, -, -, hb1⟩
  have K1 := K0.call hb1
  have R1 := R0.call hb1
  have hbA := below_chain hb1 hb0
  clear hb1 R0 K0 hb0 N1 k0 k1
  have k0 := K1.cell 0
  have k1 := K1.cell 1
  simp at k0 k1
  go_wp2_with fail
  refine (N2.out _).mono ?_
  rintro e w2 ⟨rfl, hb2⟩
  have R2 := R1.call hb2
  have hb := below_chain hb2 hbA
  clear hb2 R1 K1 hbA N2 k0 k1
  obtain ⟨⟨b0, b1, b2, b3⟩, s0, s1, s2, s3⟩ := R2.four
  have hfin := blk_set4 (a0 := .int .i64 0) (a1 := .int .i64 0) (a2 := .int .i64 0) (a3 := .int .i64 0) R2
  obtain ⟨⟨f0, f1, f2, f3⟩, -⟩ := hfin.four
  clear hfin R2
  go_wp2_with fail
  refine bodyPost_ret (v := .tuple #[.agg (mvArr 0 0 0 0), .int .i64 er]) (by simp [results, Try.results14, go_sem, f0, f1, f2, f3]) rfl ?_
  exact ⟨rfl, (((hb.setCell (by simp) _).setCell (by simp) _).setCell (by simp) _).setCell (by simp) _⟩

structure Mv where
  a : Int
  b : Int
  c : Int
  d : Int
abbrev Mv.arr (x : Mv) : Array Value := mvArr x.a x.b x.c x.d
def shE (m : Int) (a b : List Bk) : Int := if newE m a.length = 0 then newE m b.length else newE m a.length
def shV (ka kb m : Int) (a b : List Bk) : Mv :=
  if shE m a b = 0 then ⟨m, (mvC (tableOf ka kb m.toNat (a.map Bk.id)) (tableOf ka kb m.toNat (b.map Bk.id)) m.toNat : Nat), (muC (hasB b) (tableOf ka kb m.toNat (a.map Bk.id)) (tableOf ka kb m.toNat (b.map Bk.id)) m.toNat : Nat),
    ((mvC (tableOf ka kb m.toNat (a.map Bk.id)) (tableOf ka kb m.toNat (b.map Bk.id)) m.toNat - muC (hasB b) (tableOf ka kb m.toNat (a.map Bk.id)) (tableOf ka kb m.toNat (b.map Bk.id)) m.toNat : Nat))⟩ else ⟨0, 0, 0, 0⟩
theorem newE_0 {m : Int} {n : Nat} (h : newE m n = 0) : sizedB m = true ∧ 0 < n ∧ (n : Int) ≤ m := by
  unfold newE at h
  split at h
  · rename_i hs
    split at h
    · cases h
    · split at h
      · cases h
      · exact ⟨hs, by omega, by omega⟩
  · cases h
/-- What a law's backends and size are good for. -/
structure ShOk (m : Int) (a b : List Bk) : Prop where
  size : sizedB m = true → m = 13 ∨ m = 251
  la : a.length ≤ 64
  lb : b.length ≤ 64
  ia : ∀ x ∈ a, 1 ≤ x.id ∧ x.id ≤ 65535
  ib : ∀ x ∈ b, 1 ≤ x.id ∧ x.id ≤ 65535
theorem sh_nat {m : Int} {a b : List Bk} (h : ShOk m a b) {n : Nat} (he : newE m n = 0) : ∃ k : Nat, m = (k : Int) ∧ (k = 13 ∨ k = 251) ∧ 0 < n ∧ n ≤ k := by
  obtain ⟨h1, h2, h3⟩ := newE_0 he
  rcases h.size h1 with rfl | rfl
  · exact ⟨13, rfl, .inl rfl, h2, by omega⟩
  · exact ⟨251, rfl, .inr rfl, h2, by omega⟩
theorem tab_len {ka kb : Int} {m : Nat} (hm : m = 13 ∨ m = 251) {l : List Bk} (h0 : 0 < l.length) (hi : ∀ x ∈ l, 1 ≤ x.id ∧ x.id ≤ 65535) : (tableOf ka kb m (l.map Bk.id)).length = m :=
  tableOf_len hm (by simpa using h0) (fun i hi' => by obtain ⟨b, hb, rfl⟩ := List.mem_map.1 hi'; have := hi b hb; omega)
theorem shiftof_any (v1 v2 : Int) (l : List Bk) (A : Option Addr) (c : Nat) (o : List Bk) (B : Option Addr) (d : Nat) (ka kb m : Int) (w : World) (hr : Reads w w.heap.size 6 A l.length (l.flatMap Bk.cells)) (ho : Reads w w.heap.size 6 B o.length (o.flatMap Bk.cells)) (h : ShOk m l o) :
    Calls Try.prog 13 #[.agg #[.int .i64 v1, .slice A l.length c], .agg #[.int .i64 v2, .slice B o.length d], .agg #[.int .u64 ka, .int .u64 kb], .int .i64 m] w fun e w' => e = .returned (.tuple #[.agg (shV ka kb m l o).arr, .int .i64 (shE m l o)]) ∧ Below w.heap.size w w' := by
  by_cases he : newE m l.length = 0
  · obtain ⟨k, rfl, hk, h0, hlk⟩ := sh_nat h he
    by_cases he2 : newE (k : Int) o.length = 0
    · obtain ⟨k', hk', _, h02, hlk2⟩ := sh_nat h he2
      have e0 : shE (k : Int) l o = 0 := by unfold shE; rw [if_pos he, he2]
      unfold shV
      rw [e0, if_pos rfl]
      exact shiftof_some v1 v2 l A c o B d ka kb k w hr ho hk h0 hlk h02 (by omega) h.ia h.ib _ _ rfl rfl (tab_len hk h0 h.ia) (tab_len hk h02 h.ib)
    · have e0 : shE (k : Int) l o = newE (k : Int) o.length := by unfold shE; rw [if_pos he]
      unfold shV
      rw [e0, if_neg he2]
      exact shiftof_e2 v1 v2 l A c o B d ka kb k w hr hk h0 hlk h.ia (by have := h.lb; omega) he2
  · have e0 : shE m l o = newE m l.length := by unfold shE; rw [if_neg he]
    unfold shV
    rw [e0, if_neg he]
    exact shiftof_e1 v1 v2 l A c o B d ka kb m w (by have := h.la; omega) he
theorem refof_any (l : List Bk) (A : Option Addr) (c : Nat) (o : List Bk) (B : Option Addr) (d : Nat) (ka kb m : Int) (w : World) (hr : Reads w w.heap.size 6 A l.length (l.flatMap Bk.cells)) (ho : Reads w w.heap.size 6 B o.length (o.flatMap Bk.cells)) (h : ShOk m l o) :
    Calls Try.prog 14 #[.slice A l.length c, .slice B o.length d, .agg #[.int .u64 ka, .int .u64 kb], .int .i64 m] w fun e w' => e = .returned (.tuple #[.agg (shV ka kb m l o).arr, .int .i64 (shE m l o)]) ∧ Below w.heap.size w w' := by
  by_cases he : newE m l.length = 0
  · obtain ⟨k, rfl, hk, h0, hlk⟩ := sh_nat h he
    by_cases he2 : newE (k : Int) o.length = 0
    · obtain ⟨k', hk', _, h02, hlk2⟩ := sh_nat h he2
      have e0 : shE (k : Int) l o = 0 := by unfold shE; rw [if_pos he, he2]
      unfold shV
      rw [e0, if_pos rfl]
      exact refof_some l A c o B d ka kb k w hr ho hk h0 hlk h02 (by omega) h.ia h.ib _ _ rfl rfl
    · have e0 : shE (k : Int) l o = newE (k : Int) o.length := by unfold shE; rw [if_pos he]
      unfold shV
      rw [e0, if_neg he2]
      exact refof_e2 l A c o B d ka kb k w hr hk h0 hlk h.ia he2
  · have e0 : shE m l o = newE m l.length := by unfold shE; rw [if_neg he]
    unfold shV
    rw [e0, if_neg he]
    exact refof_e1 l A c o B d ka kb m w he

def shareI (a b : Int) : Int := if a < 1 then 0 else b * 1000 / a
theorem share_any (a b c d : Int) (w : World) (h0 : 0 ≤ b) (h1 : b ≤ 1099511627776) : Calls Try.prog 17 #[.agg (mvArr a b c d)] w fun e w' => e = .returned (.int .i64 (shareI a b)) ∧ Below w.heap.size w w' := by
  by_cases h : a < 1
  · have e : shareI a b = 0 := by unfold shareI; rw [if_pos h]
    rw [e]
    clear e
    go_enter Try.func17, Try.ntmps17
    go_wp2_with fail
    go_ret
    exact ⟨rfl, (by repeat (first | exact Below.refl _ _ | assumption | refine below_alloc ?_ _ | refine below_chain (by assumption) ?_ | refine below_call2 (by assumption) ?_ (by first | omega | (simp; done) | (simp; omega) | (simp [World.setCell]; omega)) | refine below_drewN ?_ _ | refine Below.drew ?_ | refine Below.alloc ?_ (by first | omega | (simp; done) | (simp; omega) | (simp [World.setCell]; omega)) _ | refine Below.setCell ?_ (by first | omega | (simp; done) | (simp; omega) | (simp [World.setCell]; omega)) _))⟩
  · have e : shareI a b = b * 1000 / a := by unfold shareI; rw [if_neg h]
    rw [e]
    have e2 : decide (a < 1) = false := by simpa using h
    have e3 : (a == 0) = false := by rw [beq_eq_false_iff_ne]; omega
    have e4 : 0 ≤ b * 1000 := by omega
    have e5 : b * 1000 ≤ 1099511627776000 := by omega
    have e6 : 1 ≤ a := by omega
    have e7 : ¬ a = 0 := by omega
    clear e h
    go_enter Try.func17, Try.ntmps17
    go_wp2_with fail
    go_ret
    exact ⟨rfl, (by repeat (first | exact Below.refl _ _ | assumption | refine below_alloc ?_ _ | refine below_chain (by assumption) ?_ | refine below_call2 (by assumption) ?_ (by first | omega | (simp; done) | (simp; omega) | (simp [World.setCell]; omega)) | refine below_drewN ?_ _ | refine Below.drew ?_ | refine Below.alloc ?_ (by first | omega | (simp; done) | (simp; omega) | (simp [World.setCell]; omega)) _ | refine Below.setCell ?_ (by first | omega | (simp; done) | (simp; omega) | (simp [World.setCell]; omega)) _))⟩
theorem refshare_any (a b c d : Int) (w : World) (h0 : 0 ≤ b) (h1 : b ≤ 1099511627776) : Calls Try.prog 18 #[.agg (mvArr a b c d)] w fun e w' => e = .returned (.int .i64 (shareI a b)) ∧ Below w.heap.size w w' := by
  by_cases h : a < 1
  · have e : shareI a b = 0 := by unfold shareI; rw [if_pos h]
    rw [e]
    clear e
    go_enter Try.func18, Try.ntmps18
    go_wp2_with fail
    go_ret
    exact ⟨rfl, (by repeat (first | exact Below.refl _ _ | assumption | refine below_alloc ?_ _ | refine below_chain (by assumption) ?_ | refine below_call2 (by assumption) ?_ (by first | omega | (simp; done) | (simp; omega) | (simp [World.setCell]; omega)) | refine below_drewN ?_ _ | refine Below.drew ?_ | refine Below.alloc ?_ (by first | omega | (simp; done) | (simp; omega) | (simp [World.setCell]; omega)) _ | refine Below.setCell ?_ (by first | omega | (simp; done) | (simp; omega) | (simp [World.setCell]; omega)) _))⟩
  · have e : shareI a b = b * 1000 / a := by unfold shareI; rw [if_neg h]
    rw [e]
    have e2 : decide (a < 1) = false := by simpa using h
    have e3 : (a == 0) = false := by rw [beq_eq_false_iff_ne]; omega
    have e4 : 0 ≤ b * 1000 := by omega
    have e5 : b * 1000 ≤ 1099511627776000 := by omega
    have e6 : 1 ≤ a := by omega
    have e7 : ¬ a = 0 := by omega
    clear e h
    go_enter Try.func18, Try.ntmps18
    go_wp2_with fail
    go_ret
    exact ⟨rfl, (by repeat (first | exact Below.refl _ _ | assumption | refine below_alloc ?_ _ | refine below_chain (by assumption) ?_ | refine below_call2 (by assumption) ?_ (by first | omega | (simp; done) | (simp; omega) | (simp [World.setCell]; omega)) | refine below_drewN ?_ _ | refine Below.drew ?_ | refine Below.alloc ?_ (by first | omega | (simp; done) | (simp; omega) | (simp [World.setCell]; omega)) _ | refine Below.setCell ?_ (by first | omega | (simp; done) | (simp; omega) | (simp [World.setCell]; omega)) _))⟩
end Go.Proofs.Ytkpkjpdhlmjchaa
