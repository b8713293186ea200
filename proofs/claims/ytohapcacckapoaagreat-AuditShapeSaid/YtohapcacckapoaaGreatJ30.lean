/- maglev: which sizes may be; the way of a backend. maglev: the next place of a way. maglev: a table's filling, as it lies in memory. maglev: New. maglev: New, where there is a table. swrr: rows of turns; what a pick does to them. swrr: Pick, once set has done its part. swrr: Pick. policy: Right, ready, Kind, Set, New. policy: Set. policy: New. -/
import Derived.Test.YtohapcacckapoaaGreatJ19
import Derived.Test.YtohapcacckapoaaGreatJ9
import Derived.Test.YtohapcacckapoaaGreatShelf
import Derived.Deep.LoopGhost
import Derived.RegionTactic
import Derived.Test.YtohapcacckapoaaGreatJ25
import Derived.Deep.RegionWith
import Derived.Deep.RegionHeld3
namespace Go.Proofs.YtohapcacckapoaaGreat
open Go Go.RowKit Go.Deep
theorem lit_cells {w : World} {t : TypeId} (xs : List Int) : ∀ j, j < xs.length → (w.alloc (.cells (xs.map (Value.int .i64)).toArray t)).cell? ⟨w.heap.size, 0 + j, none⟩ = some (.int .i64 (xs.getD j 0)) := by
 intro j hj
 rw [(Blk.new w t _).cell (0 + j)]
 simp [hj]
def sizedB (m : Int) : Bool := [13, 251, 1021, 4093].contains m
set_option maxHeartbeats 1000000 in
theorem sized_any (m : Int) (w : World) : Calls Tryz.prog 100 #[.int .i64 m] w fun e w' => e = .returned (.bool (sizedB m)) ∧ Below w.heap.size w w' := by
 have C := Tryz.slices_Contains_int w.heap.size 0 4 4 [13, 251, 1021, 4093] m _ (by simp) (by omega) (lit_cells (w := w) (t := 3) [13, 251, 1021, 4093])
 obtain ⟨r, hr⟩ : ∃ r, sizedB m = r := ⟨_, rfl⟩
 have e0 : ([13, 251, 1021, 4093] : List Int).take 4 = [13, 251, 1021, 4093] := rfl
 rw [e0] at C
 unfold sizedB at hr ⊢
 rw [hr] at C ⊢
 replace C := Lib.hid C
 clear hr e0
 go_enter Tryz.func100, Tryz.ntmps100
 go_wp2_with fail
 refine C.out.mono ?_
 rintro e w1 ⟨rfl, rfl⟩
 go_wp2_with fail
 go_ret
 exact ⟨rfl, (by repeat (first | exact Below.refl _ _ | assumption | refine below_alloc ?_ _ | refine below_chain (by assumption) ?_ | refine below_call2 (by assumption) ?_ (by first | omega | (simp; done) | (simp; omega) | (simp [World.setCell]; omega)) | refine below_drewN ?_ _ | refine Below.drew ?_ | refine Below.alloc ?_ (by first | omega | (simp; done) | (simp; omega) | (simp [World.setCell]; omega)) _ | refine Below.setCell ?_ (by first | omega | (simp; done) | (simp; omega) | (simp [World.setCell]; omega)) _))⟩
theorem refsize_any (m : Int) (w : World) : Calls Tryz.prog 42 #[.int .i64 m] w fun e w' => e = .returned (.bool (sizedB m)) ∧ w = w' := by
 unfold sizedB
 by_cases h1 : m = 13
 ·
  subst h1
  go_enter Tryz.func42, Tryz.ntmps42
  go_wp2_with fail
  go_ret
  exact ⟨rfl, rfl⟩
 by_cases h2 : m = 251
 ·
  subst h2
  go_enter Tryz.func42, Tryz.ntmps42
  go_wp2_with fail
  go_ret
  exact ⟨rfl, rfl⟩
 by_cases h3 : m = 1021
 ·
  subst h3
  go_enter Tryz.func42, Tryz.ntmps42
  go_wp2_with fail
  go_ret
  exact ⟨rfl, rfl⟩
 have e1 : (m == 13) = false := by simpa using h1
 have e2 : (m == 251) = false := by simpa using h2
 have e3 : (m == 1021) = false := by simpa using h3
 have e4 : ([13, 251, 1021, 4093] : List Int).contains m = (m == 4093) := by rw [Bool.eq_iff_iff]; simp [h1, h2, h3]
 replace e4 := Lib.hid e4
 clear h1 h2 h3
 go_enter Tryz.func42, Tryz.ntmps42
 go_wp2_with fail
 go_ret
 exact ⟨by rw [e4.out]; rfl, rfl⟩
abbrev wayV (x : WayT) : Value := .agg #[.int .i64 x.1, .int .i64 (x.2.1 : Nat), .int .i64 (x.2.2 : Nat)]
abbrev PlAt (w : World) (g m : Nat) (pl : List Int) : Prop := w.rowIs g 3 m (fun p => .int .i64 (pl.getD p 0))
abbrev WayRow (w : World) (base : Nat) (g N cap : Nat) (cs : List Value) : Prop := w.ownsRow base 183 3 (.slice (some ⟨g, 0, none⟩) N cap) N cs
def wcell (x : WayT) (m j : Nat) : List Value := [.int .i64 x.1, .int .i64 ((wayN x.2.1 x.2.2 m j : Nat) : Int), .int .i64 ((x.2.2 : Nat) : Int)]
def wcells (ws : List WayT) (m : Nat) (js : List Nat) : List Value := (List.range ws.length).flatMap fun i => wcell (ws.getD i (0, 0, 0)) m (js.getD i 0)
abbrev way0 (x : WayT) : List Value := [.int .i64 x.1, .int .i64 ((x.2.1 : Nat) : Int), .int .i64 ((x.2.2 : Nat) : Int)]
def TabAt (w : World) (g : Nat) (ka kb : Int) (pl : List Int) : Prop :=
 ∃ gp, Blk w g 186 #[.int .u64 ka, .int .u64 kb, .slice (some ⟨gp, 0, none⟩) pl.length pl.length] ∧ PlAt w gp pl.length pl
theorem TabAt.keep {w w' : World} {g : Nat} {ka kb : Int} {pl : List Int} (h : TabAt w g ka kb pl) (hb : Below w.heap.size w w') : TabAt w' g ka kb pl := by
 obtain ⟨gp, h1, h2⟩ := h
 exact ⟨gp, h1.call hb, h2.of_block (hb.block gp h2.lt)⟩
theorem TabAt.alloc {w : World} {g : Nat} {ka kb : Int} {pl : List Int} (h : TabAt w g ka kb pl) (o : Obj) : TabAt (w.alloc o) g ka kb pl := h.keep (below_alloc (Below.refl _ _) o)
structure MagSt (w : World) (base gw cap gp gt m : Nat) (ka kb : Int) (ws : List WayT) (t : Nat) : Prop where
 way : WayRow w base gw ws.length cap (wcells ws m (mrun ws m t).2)
 pl : PlAt w gp m (mrun ws m t).1
 tab : Blk w gt 186 #[.int .u64 ka, .int .u64 kb, .slice (some ⟨gp, 0, none⟩) m m]
def newE (m : Int) (n : Nat) : Int := if sizedB m then (if n = 0 then 8 else if m < n then 9 else 0) else 1
set_option maxHeartbeats 2000000 in
theorem new_none (ver : Int) (l : List Bk) (A : Option Addr) (c : Nat) (ka kb m : Int) (w : World) (_hl : l.length ≤ 1000000) (he : newE m l.length ≠ 0) :
  Calls Tryz.prog 76 #[.agg #[.int .i64 ver, .slice A l.length c], .agg #[.int .u64 ka, .int .u64 kb], .int .i64 m] w fun e w' => e = .returned (.tuple #[.pointer none, .int .i64 (newE m l.length)]) ∧ Below w.heap.size w w' := by
 have S := sized_any m
 unfold newE at he ⊢
 obtain ⟨o, ho⟩ : ∃ o, sizedB m = o := ⟨_, rfl⟩
 rw [ho] at he S ⊢
 replace S := Lib.hid S
 clear ho
 cases o
 ·
  clear he
  go_enter Tryz.func76, Tryz.ntmps76
  go_wp2_with fail
  go_step3
  go_wp2_with (go_at_call 100; with_reducible refine (S.out _).mono ?_; rintro e w1 ⟨rfl, hb1⟩)
  try rw [Exit.noGoto_ret]
  go_ret2
  exact ⟨rfl, (by repeat (first | exact Below.refl _ _ | assumption | refine below_alloc ?_ _ | refine below_chain (by assumption) ?_ | refine below_call2 (by assumption) ?_ (by first | omega | (simp; done) | (simp; omega) | (simp [World.setCell]; omega)) | refine below_drewN ?_ _ | refine Below.drew ?_ | refine Below.alloc ?_ (by first | omega | (simp; done) | (simp; omega) | (simp [World.setCell]; omega)) _ | refine Below.setCell ?_ (by first | omega | (simp; done) | (simp; omega) | (simp [World.setCell]; omega)) _))⟩
 ·
  rw [if_pos rfl] at he ⊢
  have B0 := (Blk.new w 123 #[.int .i64 ver, .slice A l.length c]).alloc (.cells #[.int .u64 ka, .int .u64 kb] 28)
  by_cases h0 : l.length = 0
  ·
   rw [if_pos h0]
   have e0 : ((l.length : Int) == 0) = true := by rw [h0]; rfl
   replace h0 := Lib.hid h0
   clear he
   go_enter Tryz.func76, Tryz.ntmps76
   go_wp2_with fail
   go_step3
   go_wp2_with (go_at_call 100; with_reducible refine (S.out _).mono ?_; rintro e w1 ⟨rfl, hb1⟩; have B1 := B0.call hb1; have c1 := B1.cell 1; simp at c1)
   try rw [Exit.noGoto_ret]
   go_ret2
   exact ⟨rfl, (by repeat (first | exact Below.refl _ _ | assumption | refine below_alloc ?_ _ | refine below_chain (by assumption) ?_ | refine below_call2 (by assumption) ?_ (by first | omega | (simp; done) | (simp; omega) | (simp [World.setCell]; omega)) | refine below_drewN ?_ _ | refine Below.drew ?_ | refine Below.alloc ?_ (by first | omega | (simp; done) | (simp; omega) | (simp [World.setCell]; omega)) _ | refine Below.setCell ?_ (by first | omega | (simp; done) | (simp; omega) | (simp [World.setCell]; omega)) _))⟩
  ·
   rw [if_neg h0] at he ⊢
   have hm : m < l.length := by
    rcases Int.lt_or_le m l.length with h | h
    · exact h
    · rw [if_neg (by omega)] at he; exact absurd rfl he
   rw [if_pos hm]
   have e0 : ((l.length : Int) == 0) = false := by rw [beq_eq_false_iff_ne]; omega
   have e1 : decide (m < (l.length : Int)) = true := by simpa using hm
   clear he h0 hm
   go_enter Tryz.func76, Tryz.ntmps76
   go_wp2_with fail
   go_step3
   go_wp2_with (go_at_call 100; with_reducible refine (S.out _).mono ?_; rintro e w1 ⟨rfl, hb1⟩; have B1 := B0.call hb1; have c1 := B1.cell 1; simp at c1)
   try rw [Exit.noGoto_ret]
   go_ret2
   exact ⟨rfl, (by repeat (first | exact Below.refl _ _ | assumption | refine below_alloc ?_ _ | refine below_chain (by assumption) ?_ | refine below_call2 (by assumption) ?_ (by first | omega | (simp; done) | (simp; omega) | (simp [World.setCell]; omega)) | refine below_drewN ?_ _ | refine Below.drew ?_ | refine Below.alloc ?_ (by first | omega | (simp; done) | (simp; omega) | (simp [World.setCell]; omega)) _ | refine Below.setCell ?_ (by first | omega | (simp; done) | (simp; omega) | (simp [World.setCell]; omega)) _))⟩
abbrev OwnW (w : World) (base : Nat) (A : Option Addr) (c : Nat) (l : List WayT) : Prop := OwnA way0 3 183 w base A c l
def trn0 : Trn := (bk0, 0)
def RowT (w : World) (base g n cap : Nat) (L : List Trn) : Prop := L.length = n ∧ w.ownsRow base 300 7 (.slice (some ⟨g, 0, none⟩) n cap) n (L.flatMap tcell)
section
variable {w w' : World} {base g n cap : Nat} {L : List Trn}
theorem RowT.blk (h : RowT w base g n cap L) : base ≤ g ∧ g < w.heap.size := h.2.lt g rfl
theorem RowT.far (h : RowT w base g n cap L) {p : Addr} (hp : ¬ p.block = g) (u : Value) : RowT (w.setCell p u) base g n cap L :=
 ⟨h.1, ownsRow_setCell_other h.2 (by simp [Value.ownBlock]; exact fun e => hp e.symm) u⟩
theorem RowT.cells (h : RowT w base g n cap L) {k : Nat} {x : Trn} (hx : L[k]? = some x) :
  w.cell? ⟨g, k * 7, none⟩ = some (.int .i64 x.1.id) ∧ w.cell? ⟨g, k * 7 + 1, none⟩ = some (.int .i64 x.1.w) ∧ w.cell? ⟨g, k * 7 + 6, none⟩ = some (.int .i64 x.2) ∧ ∀ j, w.frozen? ⟨g, j, none⟩ = false := by
 have hk : k < n := h.1 ▸ (List.getElem?_eq_some_iff.1 hx).1
 have f : ∀ j, j < 7 → w.cell? ⟨g, k * 7 + j, none⟩ = (tcell x)[j]? := fun j hj => by
  rw [h.2.cellAt (k * 7 + j) (by omega)]
  exact flat_at tcell 7 (fun _ => rfl) L k j _ hx hj
 exact ⟨f 0 (by omega), f 1 (by omega), f 6 (by omega), fun j => h.2.frozenAt j⟩
end
def addN (ts : List Trn) (k : Nat) : List Trn := (ts.take k).map (fun x => (x.1, x.2 + x.1.w)) ++ ts.drop k
def addT (ts : List Trn) : List Trn := ts.map fun x => (x.1, x.2 + x.1.w)
def bestN (ts : List Trn) : Nat → Nat
 | 0 => 0
 | k + 1 => if (ts.getD (bestN ts k) trn0).2 < (ts.getD k trn0).2 then k else bestN ts k
def bestI (ts : List Trn) : Nat := bestN (addT ts) ts.length
def pickId (ts : List Trn) : Int := if ts.length = 0 then 0 else ((addT ts).getD (bestI ts) trn0).1.id
def pickTs (wt : Int) (ts : List Trn) : List Trn := if ts.length = 0 then ts else (addT ts).set (bestI ts) (((addT ts).getD (bestI ts) trn0).1, ((addT ts).getD (bestI ts) trn0).2 - wt)
def swT (s : Bool) (v0 ver wt0 : Int) (ts0 : List Trn) (l : List Bk) : Int × List Trn := if s = true ∧ v0 = ver then (wt0, ts0) else (sumW l, zeroT l)
theorem own_mono {w : World} {base base' m n : Nat} {e : TypeId} {v : Value} {xs : List Value} (h : w.ownsRow base e m v n xs) (hb : base' ≤ base) : w.ownsRow base' e m v n xs := by
 refine ⟨h.1, ?_⟩
 rcases h.2 with h0 | ⟨g, cap, cur, h1, h2, h3⟩
 · exact .inl h0
 · exact .inr ⟨g, cap, cur, h1, by omega, h3⟩
theorem TurnAt.mono {w : World} {base base' g : Nat} {s : Bool} {ver wt : Int} {ts : List Trn} (h : TurnAt w base g s ver wt ts) (hb : base' ≤ base) : TurnAt w base' g s ver wt ts := by
 obtain ⟨P, p, h1, h2⟩ := h
 exact ⟨P, p, h1, own_mono h2 hb⟩
def TrnOk (wt : Int) (ts : List Trn) (B : Int) : Prop := ts.length ≤ 1000 ∧ (∀ x ∈ ts, -B ≤ x.2 ∧ x.2 ≤ B ∧ 0 ≤ x.1.w ∧ x.1.w ≤ 1000) ∧ 0 ≤ wt ∧ wt ≤ 1000000
def polOk (kind size : Int) : Bool := decide (1 ≤ kind) && decide (kind ≤ 4) && sizedB size
set_option maxHeartbeats 2000000 in
theorem polright_any (kind size : Int) (w : World) : Calls Tryz.prog 46 #[.agg #[.int .i64 kind, .int .i64 size]] w fun e w' => e = .returned (.bool (polOk kind size)) ∧ Below w.heap.size w w' := by
 unfold polOk
 by_cases h1 : kind < 1
 ·
  have d1 : decide (1 ≤ kind) = false := by simp; omega
  have d2 : decide (kind < 1) = true := by simpa using h1
  rw [d1]
  clear d1 h1
  go_enter Tryz.func46, Tryz.ntmps46
  go_wp2_with fail
  go_ret
  exact ⟨rfl, below_alloc (Below.refl _ _) _⟩
 by_cases h2 : 4 < kind
 ·
  have d1 : decide (1 ≤ kind) = true := by simp; omega
  have d3 : decide (kind ≤ 4) = false := by simp; omega
  have d2 : decide (kind < 1) = false := by simpa using h1
  have d4 : decide (4 < kind) = true := by simpa using h2
  rw [d1, d3]
  clear d1 d3 h1 h2
  go_enter Tryz.func46, Tryz.ntmps46
  go_wp2_with fail
  go_ret
  exact ⟨rfl, below_alloc (Below.refl _ _) _⟩
 have d1 : decide (1 ≤ kind) = true := by simp; omega
 have d3 : decide (kind ≤ 4) = true := by simp; omega
 have d2 : decide (kind < 1) = false := by simpa using h1
 have d4 : decide (4 < kind) = false := by simpa using h2
 rw [d1, d3]
 have hE : newE size 0 = if sizedB size then 8 else 1 := by unfold newE; rw [if_pos rfl]
 have N := fun W => new_none 0 [] none 0 0 0 size W (by simp) (by rw [show ([] : List Bk).length = 0 from rfl, hE]; split <;> simp)
 rw [show ([] : List Bk).length = 0 from rfl, hE] at N
 obtain ⟨t, ht⟩ : ∃ t, sizedB size = t := ⟨_, rfl⟩
 rw [ht] at N ⊢
 have hb0 := below_alloc (Below.refl w.heap.size w) (.cells #[.int .i64 kind, .int .i64 size] 46)
 replace N := Lib.hid N
 replace ht := Lib.hid ht
 clear d1 d3 h1 h2 hE
 cases t
 all_goals
  go_enter Tryz.func46, Tryz.ntmps46
  go_wp2_with fail
  refine (N.out _).mono ?_
  rintro e w1 ⟨rfl, hb1⟩
  have hb2 := below_chain hb1 hb0
  clear hb0 hb1
  go_wp2_with fail
  go_ret
  exact ⟨rfl, hb2⟩
theorem refpolright_any (kind size : Int) (w : World) : Calls Tryz.prog 14 #[.agg #[.int .i64 kind, .int .i64 size]] w fun e w' => e = .returned (.bool (polOk kind size)) ∧ Below w.heap.size w w' := by
 unfold polOk
 have S := fun W => refsize_any size W
 obtain ⟨a, ha⟩ : ∃ a, decide (1 ≤ kind) = a := ⟨_, rfl⟩
 obtain ⟨b, hb⟩ : ∃ b, decide (kind ≤ 4) = b := ⟨_, rfl⟩
 rw [ha, hb]
 generalize sizedB size = t at *
 replace S := Lib.hid S
 have hb0 := below_alloc (Below.refl w.heap.size w) (.cells #[.int .i64 kind, .int .i64 size] 34)
 cases a
 ·
  go_enter Tryz.func14, Tryz.ntmps14
  go_wp2_with fail
  go_ret
  exact ⟨rfl, hb0⟩
 ·
  cases b
  ·
   go_enter Tryz.func14, Tryz.ntmps14
   go_wp2_with fail
   go_ret
   exact ⟨rfl, hb0⟩
  ·
   go_enter Tryz.func14, Tryz.ntmps14
   go_wp2_with fail
   refine (S.out _).mono ?_
   rintro e w1 ⟨rfl, rfl⟩
   go_wp2_with fail
   go_ret
   exact ⟨by simp, hb0⟩
abbrev chArr (kind size ka kb : Int) (tn tp : Value) (some_ : Bool) (ver : Int) : Array Value := #[.int .i64 kind, .int .i64 size, .int .u64 ka, .int .u64 kb, tn, tp, .bool some_, .int .i64 ver]
abbrev ChBlk (w : World) (g : Nat) (kind size ka kb : Int) (tn tp : Value) (some_ : Bool) (ver : Int) : Prop := Blk w g 155 (chArr kind size ka kb tn tp some_ ver)
theorem swrr_new2 (w : World) : Calls Tryz.prog 78 #[] w fun e w' => e = .returned (.pointer (some ⟨w.heap.size, 0, none⟩)) ∧ Blk w' w.heap.size 190 #[.bool true, .bool false, .int .i64 0, .int .i64 0, .slice none 0 0] ∧ Below w.heap.size w w' := by
 refine (swrr_new w).mono ?_
 rintro e w' ⟨rfl, rfl⟩
 exact ⟨rfl, Blk.new w _ _, below_alloc (Below.refl _ _) _⟩
theorem turnAt_new {w : World} {g : Nat} (h : Blk w g 190 #[.bool true, .bool false, .int .i64 0, .int .i64 0, .slice none 0 0]) (base : Nat) : TurnAt w base g false 0 0 [] := ⟨none, 0, h, OwnA.nil _ _⟩
set_option maxRecDepth 100000 in
set_option maxHeartbeats 8000000 in
theorem polset_ok {g gt : Nat} {kind size ka kb : Int} {tp : Value} {so : Bool} {ver : Int} {w : World} (k2 s2 : Int) (h : ChBlk w g kind size ka kb (.pointer (some ⟨gt, 0, none⟩)) tp so ver) (hp : polOk k2 s2 = true) :
  Calls Tryz.prog 79 #[.pointer (some ⟨g, 0, none⟩), .agg #[.int .i64 k2, .int .i64 s2]] w fun e w' => e = .returned (.int .i64 0) ∧ (∃ gn, w.heap.size ≤ gn ∧ ChBlk w' g k2 s2 ka kb (.pointer (some ⟨gn, 0, none⟩)) (.pointer none) false 0 ∧ TurnAt w' w.heap.size gn false 0 0 []) ∧ Chg (· = g) w w' := by
 have hb0 := below_alloc (Below.refl w.heap.size w) (.cells #[.int .i64 k2, .int .i64 s2] 46)
 have B0 := Blk.new w 46 #[.int .i64 k2, .int .i64 s2]
 have C0 : ChBlk (w.alloc (.cells #[.int .i64 k2, .int .i64 s2] 46)) g kind size ka kb (.pointer (some ⟨gt, 0, none⟩)) tp so ver := h.alloc _
 have hgl : g < w.heap.size := h.lt
 have c4 := C0.cell 4
 have s0 := B0.cell 0
 have s1 := B0.cell 1
 simp only [List.getElem?_toArray, List.getElem?_cons_zero, List.getElem?_cons_succ] at c4 s0 s1
 have R := fun W => polright_any k2 s2 W
 rw [hp] at R
 replace R := Lib.hid R
 clear h hp
 go_enter Tryz.func79, Tryz.ntmps79
 go_wp2_with fail
 generalize w.alloc (.cells #[.int .i64 k2, .int .i64 s2] 46) = w0 at *
 refine (R.out _).mono ?_
 rintro e w1 ⟨rfl, hb1⟩
 have hb2 := below_chain hb1 hb0
 have B1 := B0.call hb1
 have C1 := Blk.call C0 hb1
 clear B0 C0 hb1 hb0 c4 s0 s1
 have s0 := B1.cell 0
 have s1 := B1.cell 1
 simp only [List.getElem?_toArray, List.getElem?_cons_zero, List.getElem?_cons_succ] at s0 s1
 have hz1 := hb2.size
 have hF : ∀ w4, Below w1.drew.heap.size w1.drew w4 → (w4.cell? ⟨g, 0, none⟩ = some (.int .i64 kind) ∧ w4.cell? ⟨g, 1, none⟩ = some (.int .i64 size) ∧ w4.cell? ⟨g, 4, none⟩ = some (.pointer (some ⟨gt, 0, none⟩)) ∧ w4.cell? ⟨g, 5, none⟩ = some tp ∧ w4.cell? ⟨g, 6, none⟩ = some (.bool so) ∧ w4.cell? ⟨g, 7, none⟩ = some (.int .i64 ver) ∧ w4.cell? ⟨w.heap.size, 0, none⟩ = some (.int .i64 k2) ∧ w4.cell? ⟨w.heap.size, 1, none⟩ = some (.int .i64 s2)) ∧
   w4.frozen? ⟨g, 0, none⟩ = false ∧ w4.frozen? ⟨g, 1, none⟩ = false ∧ w4.frozen? ⟨g, 4, none⟩ = false ∧ w4.frozen? ⟨g, 5, none⟩ = false ∧ w4.frozen? ⟨g, 6, none⟩ = false ∧ w4.frozen? ⟨g, 7, none⟩ = false := fun w4 hb4 => by
  have E1 := Blk.call (w := w1.drew) C1 hb4
  have E0 := Blk.call (w := w1.drew) B1 hb4
  exact ⟨⟨E1.cell 0, E1.cell 1, E1.cell 4, E1.cell 5, E1.cell 6, E1.cell 7, E0.cell 0, E0.cell 1⟩, E1.frozen 0, E1.frozen 1, E1.frozen 4, E1.frozen 5, E1.frozen 6, E1.frozen 7⟩
 replace hF := Lib.hid hF
 go_wp2_with fail
 apply wp_merge (R := fun W => ChBlk W g k2 s2 ka kb (.pointer (some ⟨w1.heap.size, 0, none⟩)) (.pointer none) false 0 ∧ TurnAt W w.heap.size w1.heap.size false 0 0 [] ∧ Chg (· = g) w W)
 ·
  go_region_with (go_at_call 78; (with_reducible refine (swrr_new2 _).mono ?_); rintro e w4 ⟨rfl, hT4, hb4⟩; obtain ⟨⟨t0, t1, t4, t5, t6, t7, s0, s1⟩, q0, q1, q4, q5, q6, q7⟩ := hF.out w4 hb4)
  all_goals
   have E1 := Blk.call (w := w1.drew) C1 hb4
   have hcc : Chg (· = g) w w4 := (Chg.of_below (F := (· = g)) hb2).drew.trans (Chg.of_below (F := (· = g)) hb4) (fun _ _ h => h)
   have hne : w1.heap.size ≠ g := by omega
   refine ⟨rfl, ?_, ?_, ?_⟩
   · simpa using (((((E1.set_ 0 (.int .i64 k2)).set_ 1 (.int .i64 s2)).set_ 4 (.pointer (some ⟨w1.heap.size, 0, none⟩))).set_ 5 (.pointer none)).set_ 6 (.bool false)).set_ 7 (.int .i64 0)
   ·
    refine turnAt_new ?_ _
    exact (((((Blk.far hT4 (p := ⟨g, 0, none⟩) hne _).far (p := ⟨g, 1, none⟩) hne _).far (p := ⟨g, 4, none⟩) hne _).far (p := ⟨g, 5, none⟩) hne _).far (p := ⟨g, 6, none⟩) hne _).far (p := ⟨g, 7, none⟩) hne _
   · exact (((((hcc.setCell (fun _ => rfl) _).setCell (fun _ => rfl) _).setCell (fun _ => rfl) _).setCell (fun _ => rfl) _).setCell (fun _ => rfl) _).setCell (fun _ => rfl) _
 ·
  clear hF B1 C1 s0 s1
  intro w5 hW5
  obtain ⟨hC, hT, hc⟩ := hW5
  go_wp2_with fail
  go_ret
  exact ⟨rfl, ⟨w1.heap.size, hz1, hC, hT⟩, hc⟩
set_option maxRecDepth 100000 in
set_option maxHeartbeats 8000000 in
theorem polnew_ok (k2 s2 ka kb : Int) (w : World) (hp : polOk k2 s2 = true) :
  Calls Tryz.prog 48 #[.agg #[.int .i64 k2, .int .i64 s2], .agg #[.int .u64 ka, .int .u64 kb]] w fun e w' => (∃ gc gn, e = .returned (.tuple #[.pointer (some ⟨gc, 0, none⟩), .int .i64 0]) ∧ w.heap.size ≤ gc ∧ w.heap.size ≤ gn ∧ ChBlk w' gc k2 s2 ka kb (.pointer (some ⟨gn, 0, none⟩)) (.pointer none) false 0 ∧ TurnAt w' w.heap.size gn false 0 0 []) ∧ Below w.heap.size w w' := by
 obtain ⟨w0, hw0⟩ : ∃ w0, w0 = (w.alloc (.cells #[.int .i64 k2, .int .i64 s2] 46)).alloc (.cells #[.int .u64 ka, .int .u64 kb] 28) := ⟨_, rfl⟩
 have hb0 : Below w.heap.size w w0 := hw0 ▸ below_alloc (below_alloc (Below.refl _ _) _) _
 have P0 : Blk w0 w.heap.size 46 #[.int .i64 k2, .int .i64 s2] := hw0 ▸ (Blk.new w _ _).alloc _
 have K0 : Blk w0 (w.heap.size + 1) 28 #[.int .u64 ka, .int .u64 kb] := by
  have := Blk.new (w.alloc (.cells #[.int .i64 k2, .int .i64 s2] 46)) 28 #[.int .u64 ka, .int .u64 kb]
  rw [← hw0] at this
  simpa using this
 have k0 := K0.cell 0
 have k1 := K0.cell 1
 have p0 := P0.cell 0
 have p1 := P0.cell 1
 simp only [List.getElem?_toArray, List.getElem?_cons_zero, List.getElem?_cons_succ] at k0 k1 p0 p1
 have hst : ∀ W W1, Below W.heap.size W W1 → (Below w0.heap.size w0 W ∧ W.cell? ⟨w.heap.size, 0, none⟩ = some (.int .i64 k2) ∧ W.cell? ⟨w.heap.size, 1, none⟩ = some (.int .i64 s2) ∧ W.cell? ⟨w.heap.size + 1, 0, none⟩ = some (.int .u64 ka) ∧ W.cell? ⟨w.heap.size + 1, 1, none⟩ = some (.int .u64 kb)) →
   (Below w0.heap.size w0 W1 ∧ W1.cell? ⟨w.heap.size, 0, none⟩ = some (.int .i64 k2) ∧ W1.cell? ⟨w.heap.size, 1, none⟩ = some (.int .i64 s2) ∧ W1.cell? ⟨w.heap.size + 1, 0, none⟩ = some (.int .u64 ka) ∧ W1.cell? ⟨w.heap.size + 1, 1, none⟩ = some (.int .u64 kb)) := by
  intro W W1 hb h
  obtain ⟨h0, h1, h2, h3, h4⟩ := h
  exact ⟨below_chain hb h0, (hb.cell (block_lt_of_cell h1)).trans h1, (hb.cell (block_lt_of_cell h2)).trans h2, (hb.cell (block_lt_of_cell h3)).trans h3, (hb.cell (block_lt_of_cell h4)).trans h4⟩
 replace hst := Lib.hid hst
 have hsz0 := hb0.size
 go_enter Tryz.func48, Tryz.ntmps48
 go_wp2_with fail
 rw [← hw0]
 clear hw0 P0 K0
 go_region_held3 (fun W => Below w0.heap.size w0 W ∧ W.cell? ⟨w.heap.size, 0, none⟩ = some (.int .i64 k2) ∧ W.cell? ⟨w.heap.size, 1, none⟩ = some (.int .i64 s2) ∧ W.cell? ⟨w.heap.size + 1, 0, none⟩ = some (.int .u64 ka) ∧ W.cell? ⟨w.heap.size + 1, 1, none⟩ = some (.int .u64 kb)) ((first | assumption | exact hst.out _ _ (below_alloc (Below.refl _ _) _) (by assumption) | ((refine ⟨?_, ?_⟩; (first | assumption | exact (Below.refl _ _).drew | exact Below.refl _ _); go_keep)))) (first
  | (go_at_call 78; (with_reducible refine (swrr_new2 _).mono ?_); rintro e w4 ⟨rfl, hT4, hb4⟩; have hS := hst.out _ _ hb4 (by assumption)))
 all_goals
  have C5 : ChBlk (w4.alloc (.cells (chArr 0 0 ka kb (.pointer (some ⟨w0.heap.size, 0, none⟩)) (.pointer none) false 0) 155)) w4.heap.size 0 0 ka kb (.pointer (some ⟨w0.heap.size, 0, none⟩)) (.pointer none) false 0 := Blk.new w4 _ _
  have hb5 := below_alloc (below_chain hS.1 hb0) (.cells (chArr 0 0 ka kb (.pointer (some ⟨w0.heap.size, 0, none⟩)) (.pointer none) false 0) 155)
  have hge : w.heap.size ≤ w4.heap.size := (below_chain hS.1 hb0).size
  obtain ⟨-, p0', p1', -, -⟩ := hst.out _ _ (below_alloc (Below.refl _ _) (.cells (chArr 0 0 ka kb (.pointer (some ⟨w0.heap.size, 0, none⟩)) (.pointer none) false 0) 155)) hS
  replace C5 := Lib.hid C5
  replace hb5 := Lib.hid hb5
  clear hT4 hb4 hS k0 k1 p0 p1 hb0
  generalize w4.alloc (.cells (chArr 0 0 ka kb (.pointer (some ⟨w0.heap.size, 0, none⟩)) (.pointer none) false 0) 155) = w6 at *
  go_wp2_with fail
  refine (polset_ok k2 s2 C5.out hp).mono ?_
  rintro e w7 ⟨rfl, ⟨gn, hgn, hC, hT⟩, hc⟩
  have hb7 := below_chg hb5.out hc (fun b' hb' e => by omega) hb5.out.size
  have hz6 := hb5.out.size
  have hT2 := hT.mono (show w.heap.size ≤ w6.heap.size by omega)
  replace hC := Lib.hid hC
  replace hT2 := Lib.hid hT2
  clear C5 hb5 hT hc p0' p1' hst
  go_wp2_with fail
  go_ret2
  exact ⟨⟨_, gn, rfl, hge, by omega, hC.out, hT2.out⟩, hb7⟩
end Go.Proofs.YtohapcacckapoaaGreat
