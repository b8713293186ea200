/- stateful: a new keeper. stateful: a keeper's Drop and Go. plane: a new plane. stateful: a keeper's Open. -/
import Derived.Test.YtohapcacckapoaaGreatJ49
import Derived.Test.YtohapcacckapoaaGreatJ30
import Derived.Test.YtohapcacckapoaaGreatJ4
namespace Go.Proofs.YtohapcacckapoaaGreat
open Go Go.RowKit Go.Deep Go.Maps Go.ChangeMaps
theorem kr_new1 (r : KRule) (hr : ruleOk r.r1 = true) (w : World) : Calls Tryz.prog 80 #[.agg r.l1.toArray] w fun e w' => ∃ g X, e = .returned (.tuple #[ptr0 g, .int .i64 0]) ∧ tabsOb g r.r1 r.p (r.n true) (fun _ => sT0 (r.n true)) w' X ∧ Below w.heap.size w w' ∧ ∀ y, X y → w.heap.size ≤ y := tabs_new r.r1 hr w
theorem kr_new2 (r : KRule) (hr : ruleOk r.r2 = true) (w : World) : Calls Tryz.prog 80 #[.agg r.l2.toArray] w fun e w' => ∃ g X, e = .returned (.tuple #[ptr0 g, .int .i64 0]) ∧ tabsOb g r.r2 r.p (r.n false) (fun _ => sT0 (r.n false)) w' X ∧ Below w.heap.size w w' ∧ ∀ y, X y → w.heap.size ≤ y := tabs_new r.r2 hr w
theorem keep_made {r : KRule} {w : World} {g gl bl g1 g2 n3 : Nat} {X1 X2 : Nat → Prop} (hB : Blk w g 160 #[ptr0 g1, ptr0 g2, ptr0 gl]) (hL : LoadAt w gl bl []) (h1 : tabsOb g1 r.r1 r.p (r.n true) (fun _ => sT0 (r.n true)) w X1) (h2 : tabsOb g2 r.r2 r.p (r.n false) (fun _ => sT0 (r.n false)) w X2)
  (a1 : gl < g) (a2 : bl < g) (b1 : ∀ y, X1 y → g < y ∧ y < n3) (b2 : ∀ y, X2 y → n3 ≤ y) (hn : g < n3) : keepOb ⟨g, gl, bl, fun b => match b with | true => g1 | false => g2⟩ r (kNew r) w (fun y => (y = g ∨ y = gl ∨ y = bl) ∨ X1 y ∨ X2 y) :=
 ⟨fun y => y = g ∨ y = gl ∨ y = bl, fun y => X1 y ∨ X2 y, ⟨fun y => y = g, fun y => y = gl ∨ y = bl, ⟨hB, fun _ => Iff.rfl⟩, ⟨hL, fun _ => Iff.rfl⟩, fun y e h => by rcases h with h | h <;> omega, fun _ => Iff.rfl⟩, ⟨X1, X2, h1, h2, fun y e h => by have := b1 y e; have := b2 y h; omega, fun _ => Iff.rfl⟩, fun y e h => by
  rcases h with h | h
  ·
   have := b1 y h
   omega
  ·
   have := b2 y h
   omega, fun _ => Iff.rfl⟩
set_option maxRecDepth 100000 in
set_option maxHeartbeats 8000000 in
theorem keep_new (r : KRule) (hr : kruleOk r = true) (w : World) : Calls Tryz.prog 49 #[r.val] w fun e w' => ∃ k X, e = .returned (.tuple #[ptr0 k.g, .int .i64 0]) ∧ keepOb k r (kNew r) w' X ∧ Below w.heap.size w w' ∧ ∀ y, X y → w.heap.size ≤ y := by
 have RT := Lib.hid fun W => keep_right r W
 rw [hr] at RT
 have BO := Lib.hid fun W => kr_both r W
 have N1 := Lib.hid fun W => kr_new1 r (kruleOk_b hr true) W
 have N2 := Lib.hid fun W => kr_new2 r (kruleOk_b hr false) W
 have i0 := fun W => rule_index0 (.bool r.nw) (.int .i64 r.ns) (.int .i64 r.ng) (.int .u64 r.ka) (.int .u64 r.kb) (.int .i64 r.np) (.int .i64 r.a) (.int .i64 r.b) (.int .i64 r.c) (.int .i64 r.d) (.int .i64 r.G) (.bool r.ww) (.int .i64 r.ws) (.int .i64 r.wg) (.int .u64 r.ka) (.int .u64 r.kb) (.int .i64 r.np) (.int .i64 r.a) (.int .i64 r.b) (.int .i64 r.c) (.int .i64 r.d) (.int .i64 r.G) W
 have i1 := fun W => rule_index1 (.bool r.nw) (.int .i64 r.ns) (.int .i64 r.ng) (.int .u64 r.ka) (.int .u64 r.kb) (.int .i64 r.np) (.int .i64 r.a) (.int .i64 r.b) (.int .i64 r.c) (.int .i64 r.d) (.int .i64 r.G) (.bool r.ww) (.int .i64 r.ws) (.int .i64 r.wg) (.int .u64 r.ka) (.int .u64 r.kb) (.int .i64 r.np) (.int .i64 r.a) (.int .i64 r.b) (.int .i64 r.c) (.int .i64 r.d) (.int .i64 r.G) W
 have B1 := Blk.new w 45 r.cells.toArray
 have hb0 : Below w.heap.size w (w.alloc (.cells r.cells.toArray 45)) := below_alloc (Below.refl _ _) _
 clear hr
 go_enter Tryz.func49, Tryz.ntmps49
 go_upto_region 1 with fail
 change Code.wp _ _ _ _ (w.alloc (.cells r.cells.toArray 45))
 generalize w.alloc (.cells r.cells.toArray 45) = w1 at *
 obtain ⟨rk, hrk⟩ : ∃ r, w.heap.size = r := ⟨_, rfl⟩
 rw [hrk] at B1 hb0
 try rw [hrk]
 go_upto_region 4 with (first
  | (with_reducible refine wpList_load_blk rfl 45 (.tmp 1) rfl rk 0 rfl B1 r.cells rfl _ Tryz.underlying45 rfl (by kernel_rfl) ?_)
  | (go_at_call 45; (with_reducible refine (RT.out _).mono ?_); rintro e w2 ⟨rfl, hb2⟩)
  | (go_at_call 51; (with_reducible refine (load_new _).mono ?_); rintro e w3 ⟨gl, bl, rfl, hL, hgl, hbl, hb3⟩))
 have lt1 := B1.lt
 have B3 := (B1.call hb2).call hb3
 have hb3' := below_call2 hb3 (below_call2 hb2 hb0 (by omega)) (by have := hb2.size; omega)
 have hl3 := hL.lt
 have hg0 : rk ≤ w2.heap.size := by have := hb2.size; omega
 change Code.wp _ _ _ _ (w3.alloc (.cells #[.pointer none, .pointer none, ptr0 gl] 160))
 have BK := Blk.new w3 160 #[.pointer none, .pointer none, ptr0 gl]
 have hb4 : Below w3.heap.size w3 (w3.alloc (.cells #[.pointer none, .pointer none, ptr0 gl] 160)) := below_alloc (Below.refl _ _) _
 have B4 := B3.call hb4
 have hL4 := hL.call hb4
 generalize w3.alloc (.cells #[.pointer none, .pointer none, ptr0 gl] 160) = w4 at *
 have hz3 := hb3'.size
 have hb4' := below_call2 hb4 hb3' (by omega)
 obtain ⟨g, hg⟩ : ∃ g, w3.heap.size = g := ⟨_, rfl⟩
 rw [hg] at BK hl3 hz3
 try rw [hg]
 have lk4 := BK.lt
 clear B1 B3 hb0 hb2 hb3 hb3' hb4 hL RT
 go_wp2_with (first
  | (with_reducible refine wpList_load_blk rfl 45 (.tmp 1) rfl rk 0 rfl B4 r.cells rfl _ Tryz.underlying45 rfl (by kernel_rfl) ?_)
  | (go_at_call 74; (with_reducible refine (BO.out _).mono ?_); rintro e w5 ⟨rfl, hb5⟩))
 replace BK := BK.call hb5
 replace hL4 := hL4.call hb5
 have hb' := below_call2 hb5 hb4' (by omega)
 have hz5 := hb5.size
 clear hb5 hb4' B4 BO
 refine wp_loop_rounds 3 ?_
 rw [rounds_succ]
 go_upto_region 7 with fail
 change Code.wp _ _ _ _ (w5.alloc (.cells r.l1.toArray 142))
 have D0 := Blk.new w5 142 r.l1.toArray
 have kw6 : Below w5.heap.size w5 (w5.alloc (.cells r.l1.toArray 142)) := below_alloc (Below.refl _ _) _
 generalize w5.alloc (.cells r.l1.toArray 142) = w6 at *
 go_upto_region 10 with (first
  | (with_reducible refine wpList_load_blk rfl 142 (.tmp 6) rfl w5.heap.size 0 rfl D0 r.l1 rfl _ Tryz.underlying142 rfl (by kernel_rfl) ?_)
  | (go_at_call 80; (with_reducible refine (N1.out _).mono ?_); rintro e w7 ⟨g1, X1, rfl, hT1, kw7, hX1⟩))
 have jw7 := below_chain kw7 kw6
 replace BK := BK.call jw7
 replace hL4 := hL4.call jw7
 replace hb' := below_call2 jw7 hb' (by omega)
 have zw7 := kw7.size
 have zw6 := kw6.size
 have f0 := BK.frozen 0
 have c0 : w7.cell? ⟨g, 0, none⟩ = some (.pointer none) := BK.cell 0
 go_wp2_with fail
 have hk : Chg (· = g) w7 (w7.setCell ⟨g, 0, none⟩ (ptr0 g1)) := Chg.setCell (F := (· = g)) (p := ⟨g, 0, none⟩) (Chg.refl _ _) (fun _ => rfl) _
 replace BK := BK.set_ 0 (ptr0 g1)
 replace hL4 := hL4.chg hk (fun e => by omega) (fun e => by omega)
 replace hT1 := tabsOb_ok.chg hT1 hk (fun y hy e => by have := hX1 y hy; have e2 : y = g := e; omega)
 replace hb' := below_chg hb' hk (fun y hy e => by have e2 : y = g := e; omega) (by omega)
 have hsw8 : w7.heap.size ≤ (w7.setCell ⟨g, 0, none⟩ (ptr0 g1)).heap.size := by simp [World.setCell]
 generalize w7.setCell ⟨g, 0, none⟩ (ptr0 g1) = w8 at *
 clear f0 c0 jw7 kw7 kw6 D0
 have hlt1 := fun y (hy : X1 y) => tabsOb_ok.lt hT1 hy
 rw [rounds_succ]
 go_upto_region 7 with fail
 change Code.wp _ _ _ _ (w8.alloc (.cells r.l2.toArray 142))
 have D1 := Blk.new w8 142 r.l2.toArray
 have kw9 : Below w8.heap.size w8 (w8.alloc (.cells r.l2.toArray 142)) := below_alloc (Below.refl _ _) _
 generalize w8.alloc (.cells r.l2.toArray 142) = w9 at *
 go_upto_region 10 with (first
  | (with_reducible refine wpList_load_blk rfl 142 (.tmp 6) rfl w8.heap.size 0 rfl D1 r.l2 rfl _ Tryz.underlying142 rfl (by kernel_rfl) ?_)
  | (go_at_call 80; (with_reducible refine (N2.out _).mono ?_); rintro e w10 ⟨g2, X2, rfl, hT2, kw10, hX2⟩))
 have jw10 := below_chain kw10 kw9
 replace BK := BK.call jw10
 replace hL4 := hL4.call jw10
 replace hb' := below_call2 jw10 hb' (by omega)
 have zw10 := kw10.size
 have zw9 := kw9.size
 have f0 := BK.frozen 1
 have c0 : w10.cell? ⟨g, 1, none⟩ = some (.pointer none) := BK.cell 1
 go_wp2_with fail
 have hk : Chg (· = g) w10 (w10.setCell ⟨g, 1, none⟩ (ptr0 g2)) := Chg.setCell (F := (· = g)) (p := ⟨g, 1, none⟩) (Chg.refl _ _) (fun _ => rfl) _
 replace BK := BK.set_ 1 (ptr0 g2)
 replace hL4 := hL4.chg hk (fun e => by omega) (fun e => by omega)
 replace hT1 := tabsOb_ok.chg (tabsOb_ok.call hT1 jw10) hk (fun y hy e => by have := hX1 y hy; have e2 : y = g := e; omega)
 replace hT2 := tabsOb_ok.chg hT2 hk (fun y hy e => by have := hX2 y hy; have e2 : y = g := e; omega)
 replace hb' := below_chg hb' hk (fun y hy e => by have e2 : y = g := e; omega) (by omega)
 have hsw11 : w10.heap.size ≤ (w10.setCell ⟨g, 1, none⟩ (ptr0 g2)).heap.size := by simp [World.setCell]
 generalize w10.setCell ⟨g, 1, none⟩ (ptr0 g2) = w11 at *
 clear f0 c0 jw10 kw10 kw9 D1
 rw [rounds_succ]
 go_wp2_with fail
 go_ret2
 refine ⟨⟨g, gl, bl, fun b => match b with | true => g1 | false => g2⟩, _, rfl, keep_made (n3 := w8.heap.size) BK hL4 hT1 hT2 (by omega) (by omega) (fun y hy => ⟨by have := hX1 y hy; omega, hlt1 y hy⟩) (fun y hy => by have := hX2 y hy; omega) (by omega), by rw [hrk]; exact hb', fun y hy => ?_⟩
 rw [hrk]
 rcases hy with hy | hy | hy
 · omega
 ·
  have := hX1 y hy
  omega
 ·
  have := hX2 y hy
  omega
section
variable {w w1 w2 : World} {X Z : Nat → Prop} {P P' : Ob} {A A' : Option Addr}
theorem Ob.ToZ.of {X1 : Nat → Prop} (h2 : Chg X w w1) (h3 : ∀ y, X1 y → X y ∨ w.heap.size ≤ y) (h4 : ∀ y, X1 y → ¬ Z y) (hZ : ∀ y, Z y → y < w1.heap.size) (k : P'.To w1 w2 X1) : P'.ToZ w w2 X Z := by
 obtain ⟨X2, k1, k2, k3⟩ := k
 have hz := h2.size
 refine ⟨X2, k1, h2.trans k2 fun y hy hx => ?_, fun y hy => ?_, fun y hy e => ?_⟩
 ·
  rcases h3 y hx with h | h
  · exact h
  · omega
 ·
  rcases k3 y hy with h | h
  · exact h3 y h
  · exact .inr (by omega)
 ·
  rcases k3 y hy with h | h
  · exact h4 y h e
  ·
   have := hZ y e
   omega
theorem Ob.ToZ.push (hP : P.Ok) (t : P.ToZ w w1 X (InB A)) (hp : Pushed w1 w2 A A') (hA : ∀ b, InB A b → w.heap.size ≤ b) : P.ToZ w w2 X (InB A') := by
 obtain ⟨X1, h1, h2, h3, h4⟩ := t
 refine ⟨X1, hP.chg h1 hp.chg h4, h2.trans hp.chg fun y hy e => by have := hA y e; omega, h3, fun y hy e => ?_⟩
 rcases hp.new y e with h | h
 · exact h4 y hy h
 ·
  have := hP.lt h1 hy
  omega
theorem OwnA.to {α : Type} {cells : α → List Value} {m : Nat} {e : TypeId} {base c : Nat} {l : List α} (h : OwnA cells m e w1 base A c l) {X1 : Nat → Prop} (t : P.To w1 w2 X1) (hX : ∀ y, X1 y → ¬ InB A y) : OwnA cells m e w2 base A c l := by
 obtain ⟨X2, -, h2, -⟩ := t
 exact h.chg h2 fun b hb e => hX b e hb
end
section
variable {w w' : World} {X F : Nat → Prop} {k : KPtr} {r : KRule} {s : KSt}
theorem kSame2 (S : Bool → Nat → TSt) (T : Bool → Nat → TSt) : updB (updB S true (T true)) false (T false) = T := by
 funext b
 cases b <;> rfl
theorem keep_goB (b : Bool) (hI : KI r s) {S0 : Bool → Nat → TSt} {M0 : LM} {n0 : Int} (hS : S0 b = s.S b) (h : keepOb k r ⟨S0, M0, n0⟩ w X) (nw : Int) (hg : goOk s.now nw = true) : Calls Tryz.prog 82 #[ptr0 (k.gb b), .int .i64 nw] w fun e w' => ∃ (A : Option Addr) (a : Nat) (SS : Nat → List Int), e = .returned (.tuple #[.slice A (catF (fun i => goEnts (s.S b i) (SS i)) r.p).length a, .int .i64 0]) ∧ (∀ i, i < r.p → GoS r.G (s.S b i).now nw (s.S b i).M (SS i)) ∧ OwnE w' w.heap.size A a (catF (fun i => goEnts (s.S b i) (SS i)) r.p) ∧ (keepOb k r ⟨updB S0 b (fun i => goTab (r.n b) (s.S b i) nw (SS i)), M0, n0⟩).ToZ w w' X (InB A) := by
 obtain ⟨X1, h1, -, -, h2⟩ := keep_tab2 b h
 dsimp only at h1 h2
 rw [hS] at h1
 refine (tabs_go h1 (hI.lk b).ti nw (fun i hi => by rw [(hI.lk b).now i hi, hI.now b]; exact hg)).mono ?_
 rintro e w' ⟨A, a, SS, rfl, hG, hO, hT⟩
 rw [r.G_b] at hG
 refine ⟨A, a, SS, rfl, hG, hO, h2 _ _ _ (fun y hy hx => ?_) hT⟩
 have := (hO.block hy).1
 have := keepOb_ok.lt h hx
 omega
theorem goE_len {G nw : Int} {n : Nat} {t : TSt} {S : List Int} (hi : TI n t) (hS : GoS G t.now nw t.M S) : (goEnts t S).length ≤ n := by
 unfold goEnts
 rw [List.length_map]
 refine nodup_len n S hS.nd fun x hx => ?_
 cases hg : goOk t.now nw
 ·
  rw [hS.no hg] at hx
  cases hx
 ·
  have := (hi.has x).1 ((hS.mem hg x).1 hx).1
  omega
theorem catF_len2 {α : Type} {f : Nat → List α} {m : Nat} : ∀ k, (∀ i, i < k → (f i).length ≤ m) → (catF f k).length ≤ k * m
 | 0, _ => by simp [catF]
 | k + 1, h => by
  have := catF_len2 k fun i hi => h i (by omega)
  have := h k (by omega)
  rw [catF, List.length_append, Nat.succ_mul]
  omega
theorem kGo_len (hI : KI r s) {b : Bool} {nw : Int} {SS : Nat → List Int} (hS : ∀ i, i < r.p → GoS r.G (s.S b i).now nw (s.S b i).M (SS i)) : (catF (fun i => goEnts (s.S b i) (SS i)) r.p).length ≤ 65536 := by
 have h1 := catF_len2 (f := fun i => goEnts (s.S b i) (SS i)) (m := r.n b) r.p (fun i hi => goE_len (G := r.G) ((hI.lk b).ti i hi) (hS i hi))
 have h2 := hI.n4 b
 have h3 := hI.p1
 have h4 : r.p * r.n b ≤ 16 * 4096 := Nat.mul_le_mul h3.2 h2
 omega
def selB (a b : Nat → List Int) : Bool → Nat → List Int
 | true => a
 | false => b
set_option maxRecDepth 100000 in
set_option maxHeartbeats 8000000 in
theorem keep_go (hI : KI r s) (h : keepOb k r s w X) (nw : Int) (hg : goOk s.now nw = true) : Calls Tryz.prog 50 #[ptr0 k.g, .int .i64 nw] w fun e w' => ∃ (A : Option Addr) (a : Nat) (SS : Bool → Nat → List Int), e = .returned (.tuple #[.slice A (kGoL r s SS).length a, .int .i64 0]) ∧ KGoS r s nw SS ∧ OwnE w' w.heap.size A a (kGoL r s SS) ∧ (keepOb k r (kGo r s nw SS)).ToZ w w' X (InB A) := by
 have GV := Lib.hid (keep_given h)
 have c0 := (keep_blk h).1.cell 0
 have c1 := (keep_blk h).1.cell 1
 have hlt := fun y (hy : X y) => keepOb_ok.lt h hy
 have D1 := Lib.hid (keep_goB true hI (k := k) (S0 := s.S) (M0 := s.M) (n0 := goN s.now nw) rfl (by
  have e : keepOb k r ⟨s.S, s.M, goN s.now nw⟩ = keepOb k r s := rfl
  rw [e]
  exact h) nw hg)
 have D2 := Lib.hid fun (T : Nat → TSt) (W : World) (X1 : Nat → Prop) (hW : keepOb k r ⟨updB s.S true T, s.M, goN s.now nw⟩ W X1) => keep_goB false hI (S0 := updB s.S true T) rfl hW nw hg
 have i0 := fun W => ptr_index0 (ptr0 (k.gb true)) (ptr0 (k.gb false)) W
 have i1 := fun W => ptr_index1 (ptr0 (k.gb true)) (ptr0 (k.gb false)) W
 have hml := hI.mlen
 have LE := Lib.hid fun (b : Bool) (SS : Nat → List Int) hS => kGo_len hI (b := b) (nw := nw) (SS := SS) hS
 have GN := Lib.hid fun (SS : Bool → Nat → List Int) (hS : KGoS r s nw SS) (W : World) (X1 : Nat → Prop) (hW : keepOb k r ⟨updB (updB s.S true (fun i => goTab (r.n true) (s.S true i) nw (SS true i))) false (fun i => goTab (r.n false) (s.S false i) nw (SS false i)), s.M, goN s.now nw⟩ W X1) (A : Option Addr) (d : Nat) (hR : Reads W W.heap.size 14 A (kGoL r s SS).length ((kGoL r s SS).flatMap Slt.ent)) (hA : ∀ ad, A = some ad → ¬ X1 ad.block) => show Calls Tryz.prog 83 #[ptr0 k.g, .slice A (kGoL r s SS).length d] W fun e w' => e = .returned (.tuple #[]) ∧ (keepOb k r (kGo r s nw SS)).To W w' X1 from by
  have hST := subs_step (kGoL r s SS) hI.ld (fun y => by rw [kGo_cnt hI hS y]; omega) hI.cnt
  have e : kGo r s nw SS = ⟨updB (updB s.S true (fun i => goTab (r.n true) (s.S true i) nw (SS true i))) false (fun i => goTab (r.n false) (s.S false i) nw (SS false i)), lmSubs s.M (kGoL r s SS), goN s.now nw⟩ := by
   rw [kSame2 s.S fun b i => goTab (r.n b) (s.S b i) nw (SS b i)]
   rfl
  rw [e]
  have l1 := LE.out true (SS true) (hS true)
  have l2 := LE.out false (SS false) (hS false)
  exact keep_gone hW (kGoL r s SS) A d hR hA (fun j hj => by
   obtain ⟨a1, a2, -, a4⟩ := hST j hj
   exact ⟨a1, a2, Nat.le_trans a4 (by omega)⟩) (by unfold kGoL kGoB; rw [List.length_append]; omega)
 clear h hI
 go_enter Tryz.func50, Tryz.ntmps50
 go_wp2_with (go_at_call 81; with_reducible refine GV.out.mono ?_; rintro e w1 ⟨rfl, rfl⟩)
 refine wp_loop_rounds 3 ?_
 rw [rounds_succ]
 go_wp2_with (first
  | (go_at_call 82; (with_reducible refine D1.out.mono ?_); rintro e w1 ⟨A1, q1, S1, rfl, hG1, hO1, hT1⟩; have l1 := LE.out true S1 hG1)
  | (at_builtin; (refine wpList_push_ents2 rfl (.tmp 30) (.tmp 31) rfl w.heap.size none 0 [] 0 rfl rfl (OwnA.nil _ _) A1 q1 (catF (fun i => goEnts (s.S true i) (S1 i)) r.p) (catF (fun i => goEnts (s.S true i) (S1 i)) r.p).length rfl rfl hO1.reads (by omega) (by obtain ⟨_, _, hc, -⟩ := hT1; exact hc.size) ?_; intro A3 q3 w3 hO3 hP3)))
 have hT3 := Ob.ToZ.push keepOb_ok (A := none) (hT1.to.z fun y e => by obtain ⟨a, e, -⟩ := e; cases e) hP3 (fun y e => by obtain ⟨a, e, -⟩ := e; cases e)
 rw [List.nil_append] at hO3
 obtain ⟨X3, g1, g2, g3, g4⟩ := hT3
 have hz3 := g2.size
 have D2' := Lib.hid (D2.out _ _ _ g1)
 replace g1 := Lib.hid g1
 replace g2 := Lib.hid g2
 replace g3 := Lib.hid g3
 replace g4 := Lib.hid g4
 replace hG1 := Lib.hid hG1
 clear hP3 hT1 hO1 D1 D2
 obtain ⟨L1, e1⟩ : ∃ L, catF (fun i => goEnts (s.S true i) (S1 i)) r.p = L := ⟨_, rfl⟩
 rw [e1] at hO3 l1
 rw [e1]
 rw [rounds_succ]
 go_wp2_with (first
  | (go_at_call 82; (with_reducible refine D2'.out.mono ?_); rintro e w4 ⟨A4, q4, S2, rfl, hG2, hO4, hT4⟩; have l2 := LE.out false S2 hG2; have hO3' := hO3.to hT4.to g4.out; have hz4 : w3.heap.size ≤ w4.heap.size := (to_chg hT4.to).size)
  | (at_builtin; (refine wpList_push_ents2 rfl (.tmp 30) (.tmp 31) rfl w.heap.size A3 q3 L1 L1.length rfl rfl hO3' A4 q4 (catF (fun i => goEnts (s.S false i) (S2 i)) r.p) (catF (fun i => goEnts (s.S false i) (S2 i)) r.p).length rfl rfl hO4.reads (by omega) (by omega) ?_; intro A5 q5 w5 hO5 hP5)))
 have hT5 := Ob.ToZ.push keepOb_ok (Ob.ToZ.of g2.out g3.out g4.out (fun y hy => (hO3.block hy).2) hT4.to) hP5 (fun y hy => (hO3.block hy).1)
 obtain ⟨X5, f1, f2, f3, f4⟩ := hT5
 have hSS : KGoS r s nw (selB S1 S2) := fun b => by
  cases b
  · exact hG2
  · exact hG1.out
 have hLL : kGoL r s (selB S1 S2) = L1 ++ catF (fun i => goEnts (s.S false i) (S2 i)) r.p := by rw [← e1]; rfl
 have hGN := Lib.hid (GN.out (selB S1 S2) hSS _ _ f1 A5 q5 (by rw [hLL]; have := hO5.reads; exact this) (fun ad e hx => f4 _ hx ⟨ad, e, rfl⟩))
 rw [← hLL] at hO5
 obtain ⟨s3, hs3⟩ : ∃ x, kGo r s nw (selB S1 S2) = x := ⟨_, rfl⟩
 rw [hs3] at hGN
 replace f1 := Lib.hid f1
 replace f2 := Lib.hid f2
 replace f3 := Lib.hid f3
 replace f4 := Lib.hid f4
 replace hSS := Lib.hid hSS
 have hln : (kGoL r s (selB S1 S2)).length = L1.length + (catF (fun i => goEnts (s.S false i) (S2 i)) r.p).length := by rw [hLL, List.length_append]
 rw [hln] at hGN
 generalize (catF (fun i => goEnts (s.S false i) (S2 i)) r.p).length = n2 at *
 replace hln := Lib.hid hln
 replace hLL := Lib.hid hLL
 replace hs3 := Lib.hid hs3
 clear hP5 hT4 hO4 GN D2' g1 g2 g3 g4 hO3 hG1 hG2 LE
 rw [rounds_succ]
 go_wp2_with (go_at_call 83; (with_reducible refine hGN.out.mono ?_); rintro e w6 ⟨rfl, hT6⟩)
 go_ret2
 refine ⟨A5, q5, selB S1 S2, by rw [hln.out]; rfl, hSS.out, hO5.to hT6 f4.out, by rw [hs3.out]; exact Ob.ToZ.of f2.out f3.out f4.out (fun y hy => (hO5.block hy).2) hT6⟩
end
abbrev plA (c : PCfg) (g ch kp ow : Value) (now : Int) : Array Value := #[.bool c.v, .int .u64 c.hi, .int .u64 c.lo, .int .i64 c.port, .bool c.sf, .bool c.fb, .int .i64 c.inst, .bool c.r.nw, .int .i64 c.r.ns, .int .i64 c.r.ng, .bool c.r.ww, .int .i64 c.r.ws, .int .i64 c.r.wg, .int .u64 c.r.ka, .int .u64 c.r.kb, .int .i64 c.r.np, .int .i64 c.r.a, .int .i64 c.r.b, .int .i64 c.r.c, .int .i64 c.r.d, .int .i64 c.r.G, .int .i64 c.pk, .int .i64 c.ps, .int .i64 c.ri, .int .i64 c.fa, g, ch, kp, ow, .int .i64 now, .int .i64 0, .int .i64 0, .int .i64 0, .int .i64 0, .int .i64 0, .int .i64 0, .int .i64 0, .int .i64 0, .int .i64 0, .int .i64 0, .int .i64 0, .int .i64 0, .int .i64 0, .int .i64 0, .int .i64 0, .int .i64 0, .int .i64 0, .int .i64 0, .int .i64 0, .int .i64 0, .int .i64 0, .int .i64 0, .int .i64 0]
abbrev regA (c : PCfg) : Array Value := #[.int .i64 c.ri, .int .i64 c.fa, .slice none 0 0, .int .i64 0, .int .i64 0]
set_option maxRecDepth 100000 in
theorem registry_new (c : PCfg) (hc : heOk c.ri c.fa = true) (w : World) : Calls Tryz.prog 19 #[.agg #[.int .i64 c.ri, .int .i64 c.fa]] w fun e w' => ∃ g, e = .returned (.tuple #[ptr0 g, .int .i64 0]) ∧ w.heap.size ≤ g ∧ Blk w' g 108 (regA c) ∧ Below w.heap.size w w' := by
 have HR := Lib.hid fun W => health_right c.ri c.fa W
 rw [hc] at HR
 have hb0 : Below w.heap.size w (w.alloc (.cells #[.int .i64 c.ri, .int .i64 c.fa] 47)) := below_alloc (Below.refl _ _) _
 have B0 := Blk.new w 47 #[.int .i64 c.ri, .int .i64 c.fa]
 clear hc
 go_enter Tryz.func19, Tryz.ntmps19
 go_upto_region 1 with fail
 change Code.wp _ _ _ _ (w.alloc (.cells #[.int .i64 c.ri, .int .i64 c.fa] 47))
 generalize w.alloc (.cells #[.int .i64 c.ri, .int .i64 c.fa] 47) = w1 at *
 obtain ⟨rk, hrk⟩ : ∃ r, w.heap.size = r := ⟨_, rfl⟩
 rw [hrk] at B0 hb0
 try rw [hrk]
 have c0 : w1.cell? ⟨rk, 0, none⟩ = some (.int .i64 c.ri) := B0.cell 0
 have c1 : w1.cell? ⟨rk, 1, none⟩ = some (.int .i64 c.fa) := B0.cell 1
 go_upto_region 3 with (go_at_call 47; (with_reducible refine (HR.out _).mono ?_); rintro e w2 ⟨rfl, hb2⟩)
 have B2 := B0.call hb2
 have hbb := below_call2 hb2 hb0 (by have := hb0.size; omega)
 have hz2 := hbb.size
 clear c0 c1 B0 hb0 hb2
 have c0 : w2.cell? ⟨rk, 0, none⟩ = some (.int .i64 c.ri) := B2.cell 0
 have c1 : w2.cell? ⟨rk, 1, none⟩ = some (.int .i64 c.fa) := B2.cell 1
 go_wp2_with fail
 go_ret2
 exact ⟨_, rfl, hz2, Blk.new w2 108 (regA c), by rw [hrk]; exact Below.alloc hbb (by omega) _⟩
@[reducible] def PolAt (q : Nat) (c : PCfg) (W : World) : Prop := W.cell? ⟨q, 21, none⟩ = some (.int .i64 c.pk) ∧ W.cell? ⟨q, 22, none⟩ = some (.int .i64 c.ps) ∧ W.cell? ⟨q, 13, none⟩ = some (.int .u64 c.r.ka) ∧ W.cell? ⟨q, 14, none⟩ = some (.int .u64 c.r.kb)
theorem PolAt.of {q : Nat} {c : PCfg} {W : World} {g ch kp ow : Value} {now : Int} (h : Blk W q 73 (plA c g ch kp ow now)) : PolAt q c W := ⟨h.cell 21, h.cell 22, h.cell 13, h.cell 14⟩
theorem PolAt.call {q : Nat} {c : PCfg} {W W' : World} (h : PolAt q c W) (hb : Below W.heap.size W W') : PolAt q c W' := by
 obtain ⟨h1, h2, h3, h4⟩ := h
 exact ⟨(hb.cell (block_lt_of_cell h1)).trans h1, (hb.cell (block_lt_of_cell h2)).trans h2, (hb.cell (block_lt_of_cell h3)).trans h3, (hb.cell (block_lt_of_cell h4)).trans h4⟩
section
variable {w : World} {c : PCfg} {q : Nat} {g ch kp ow : Value} {now : Int}
set_option maxRecDepth 100000 in
theorem plane_choose (hp : polOk c.pk c.ps = true) (h : Blk w q 73 (plA c g ch kp ow now)) : Calls Tryz.prog 20 #[ptr0 q] w fun e w' => ∃ gc, e = .returned (.tuple #[]) ∧ w.heap.size ≤ gc ∧ Blk w' q 73 (plA c g (ptr0 gc) kp ow now) ∧ Chg (· = q) w w' := by
 have PN := Lib.hid fun W => polnew_ok c.pk c.ps c.r.ka c.r.kb W hp
 have hd := (Below.refl w.heap.size w).drew
 have hS0 : PolAt q c w.drew := PolAt.of (h.call hd)
 have hB := Lib.hid (h.call hd)
 have hq := h.lt
 have hzd : w.heap.size = w.drew.heap.size := rfl
 have hc0 : Chg (· = q) w w.drew := Chg.of_below hd
 clear hp h hd
 go_enter Tryz.func20, Tryz.ntmps20
 refine wp_region_held_drew (S := PolAt q c) (by kernel_rfl) hS0 (fun hHeld => ?_)
 generalize w.drew = wd at *
 refine' tk 0 rfl rfl ?_ ?_; rotate_left; · ((intro w hSw; (try dsimp only at hSw); go_simp) <;> with_reducible rfl); try go_frame
 refine' tk 1 rfl rfl ?_ ?_; rotate_left; · ((intro w hSw; (try dsimp only at hSw); go_simp) <;> with_reducible rfl); try go_frame
 refine' tk 2 rfl rfl ?_ ?_; rotate_left; · ((intro w hSw; (try dsimp only at hSw); go_simp) <;> with_reducible rfl); try go_frame
 refine' tk 3 rfl rfl ?_ ?_; rotate_left; · ((intro w hSw; (try dsimp only at hSw); go_simp) <;> with_reducible rfl); try go_frame
 refine' tk 4 rfl rfl ?_ ?_; rotate_left; · ((intro w hSw; (try dsimp only at hSw); go_simp) <;> with_reducible rfl); try go_frame
 refine' tk 5 rfl rfl ?_ ?_; rotate_left; · ((intro w hSw; (try dsimp only at hSw); go_simp) <;> with_reducible rfl); try go_frame
 refine' tk 6 rfl rfl ?_ ?_; rotate_left; · ((intro w hSw; (try dsimp only at hSw); go_simp) <;> with_reducible rfl); try go_frame
 refine' tk 7 rfl rfl ?_ ?_; rotate_left; · ((intro w hSw; (try dsimp only at hSw); go_simp) <;> with_reducible rfl); try go_frame
 refine' tk 8 rfl rfl ?_ ?_; rotate_left; · ((intro w hSw; (try dsimp only at hSw); go_simp) <;> with_reducible rfl); try go_frame
 refine' tk 9 rfl rfl ?_ ?_; rotate_left; · ((intro w hSw; (try dsimp only at hSw); go_simp) <;> with_reducible rfl); try go_frame
 refine' tk 10 rfl rfl ?_ ?_; rotate_left; · ((intro w hSw; (try dsimp only at hSw); go_simp) <;> with_reducible rfl); try go_frame
 refine' tk 11 rfl rfl ?_ ?_; rotate_left; · ((intro w hSw; (try dsimp only at hSw); go_simp) <;> with_reducible rfl); try go_frame
 refine wpAnyH_ready (rs := [12]) (by kernel_rfl) (by simp) ?_; refine consH rfl (fun K hK => ?_) AllReadyH.nil
 go_simp
 (go_at_call 48; (with_reducible refine (PN.out _).mono ?_))
 rintro e w1 ⟨⟨gc, gn, rfl, hgc, -, -, -⟩, hb1⟩
 refine hK.out _ _ (hHeld.call hb1) (fun hHeld1 => ?_)
 clear hK K hHeld
 try go_frame
 have B1 : Blk w1 q 73 (plA c g ch kp ow now) := hB.out.call hb1
 have B2 : Blk (w1.setCell ⟨q, 26, none⟩ (ptr0 gc)) q 73 (plA c g (ptr0 gc) kp ow now) := B1.set_ 26 (ptr0 gc)
 have hc1 : Chg (· = q) w (w1.setCell ⟨q, 26, none⟩ (ptr0 gc)) := Chg.setCell (p := ⟨q, 26, none⟩) (hc0.trans (Chg.of_below (F := (· = q)) hb1) (fun _ _ h => h)) (fun _ => rfl) (ptr0 gc)
 have hS2 : PolAt q c (w1.setCell ⟨q, 26, none⟩ (ptr0 gc)) := PolAt.of B2
 have hgc2 : w.heap.size ≤ gc := by omega
 have c26 : w1.cell? ⟨q, 26, none⟩ = some ch := B1.cell 26
 have f26 : w1.frozen? ⟨q, 26, none⟩ = false := B1.frozen 26
 replace B2 := Lib.hid B2
 replace hc1 := Lib.hid hc1
 clear hb1 B1 hB hc0
 refine' tk 13 rfl rfl ?_ ?_; rotate_left; · ((intro w hSw; (try dsimp only at hSw); go_simp) <;> with_reducible rfl); try go_frame
 refine' tk 14 rfl rfl ?_ ?_; rotate_left; · ((intro w hSw; (try dsimp only at hSw); go_simp) <;> with_reducible rfl); try go_frame
 refine' tk 15 rfl rfl ?_ ?_; rotate_left; · ((intro w hSw; (try dsimp only at hSw); go_simp) <;> with_reducible rfl); try go_frame
 refine' tk 16 rfl rfl ?_ ?_; rotate_left; · ((intro w hSw; (try dsimp only at hSw); go_simp) <;> with_reducible rfl); try go_frame
 refine' tk 17 rfl rfl ?_ ?_; rotate_left; · ((intro w hSw; (try dsimp only at hSw); go_simp) <;> with_reducible rfl); try go_frame
 refine wpAnyH_ready (rs := [18]) (by kernel_rfl) (by simp) ?_; refine consH rfl (fun K hK => ?_) AllReadyH.nil
 go_simp
 refine hK.out _ _ hS2 (fun _ => ?_)
 clear hK K
 try go_frame
 refine wpAnyH_done (by kernel_rfl) ?_ _
 generalize w1.setCell ⟨q, 26, none⟩ (ptr0 gc) = w2 at *
 go_wp2_with fail
 go_end0
 exact ⟨gc, rfl, hgc2, B2.out, hc1.out⟩
set_option maxRecDepth 100000 in
set_option maxHeartbeats 4000000 in
theorem plane_anew (hr : kruleOk c.r = true) (hn : goOk 0 now = true) (h : Blk w q 73 (plA c g ch kp ow now)) : Calls Tryz.prog 21 #[ptr0 q] w fun e w' => ∃ k X SS gl bl, e = .returned (.tuple #[]) ∧ Blk w' q 73 (plA c g ch (ptr0 k.g) (ptr0 gl) now) ∧ KGoS c.r (kNew c.r) now SS ∧ keepOb k c.r (kGo c.r (kNew c.r) now SS) w' X ∧ LoadAt w' gl bl [] ∧ Chg (· = q) w w' := by
 have NW := Lib.hid fun W => keep_new c.r hr W
 have hI0 := Lib.hid (KI.new hr)
 have hq := h.lt
 go_enter Tryz.func21, Tryz.ntmps21
 go_upto_region 1 with (first
  | (with_reducible refine wpList_load_blk rfl 45 (.tmp 7) rfl q 7 rfl h [.bool c.r.nw, .int .i64 c.r.ns, .int .i64 c.r.ng, .bool c.r.ww, .int .i64 c.r.ws, .int .i64 c.r.wg, .int .u64 c.r.ka, .int .u64 c.r.kb, .int .i64 c.r.np, .int .i64 c.r.a, .int .i64 c.r.b, .int .i64 c.r.c, .int .i64 c.r.d, .int .i64 c.r.G] rfl _ Tryz.underlying45 rfl (by kernel_rfl) ?_)
  | (go_at_call 49; (with_reducible refine (NW.out _).mono ?_); rintro e w1 ⟨k, X, rfl, hK1, hb1, hX⟩; have c27 : w1.cell? ⟨q, 27, none⟩ = some kp := (h.call hb1).cell 27; have f27 : w1.frozen? ⟨q, 27, none⟩ = false := (h.call hb1).frozen 27))
 change Code.wp _ _ _ _ (w1.setCell ⟨q, 27, none⟩ (ptr0 k.g))
 have B2 : Blk (w1.setCell ⟨q, 27, none⟩ (ptr0 k.g)) q 73 (plA c g ch (ptr0 k.g) ow now) := (h.call hb1).set_ 27 (ptr0 k.g)
 have hc2 : Chg (· = q) w (w1.setCell ⟨q, 27, none⟩ (ptr0 k.g)) := Chg.setCell (p := ⟨q, 27, none⟩) (Chg.of_below (F := (· = q)) hb1) (fun _ => rfl) (ptr0 k.g)
 have hK2 := keepOb_ok.chg hK1 (Chg.setCell (p := ⟨q, 27, none⟩) (Chg.refl (· = q) w1) (fun _ => rfl) (ptr0 k.g)) (fun y hy e => by have := hX y hy; omega)
 have hqX : ¬ X q := fun e => by have := hX q e; omega
 clear hK1 hb1 h c27 f27
 generalize w1.setCell ⟨q, 27, none⟩ (ptr0 k.g) = w2 at *
 have hd := (Below.refl w2.heap.size w2).drew
 have G1 := keep_go hI0.out (keepOb_ok.call hK2 hd) now hn
 have hS0 : w2.drew.cell? ⟨q, 27, none⟩ = some (ptr0 k.g) ∧ w2.drew.cell? ⟨q, 29, none⟩ = some (.int .i64 now) := ⟨B2.cell 27, B2.cell 29⟩
 have hc3 := hc2.trans (G := (· = q)) (Chg.of_below hd) (fun _ _ h => h)
 have B3 := B2.call hd
 replace G1 := Lib.hid G1
 replace B3 := Lib.hid B3
 replace hc3 := Lib.hid hc3
 clear hd hc2 B2 hK2
 refine wp_region_held_drew (S := fun W => W.cell? ⟨q, 27, none⟩ = some (ptr0 k.g) ∧ W.cell? ⟨q, 29, none⟩ = some (.int .i64 now)) (by kernel_rfl) hS0 (fun hHeld => ?_)
 generalize w2.drew = wd at *
 refine' tk 0 rfl rfl ?_ ?_; rotate_left; · ((intro w hSw; (try dsimp only at hSw); go_simp) <;> with_reducible rfl); try go_frame
 refine' tk 1 rfl rfl ?_ ?_; rotate_left; · ((intro w hSw; (try dsimp only at hSw); go_simp) <;> with_reducible rfl); try go_frame
 refine' tk 2 rfl rfl ?_ ?_; rotate_left; · ((intro w hSw; (try dsimp only at hSw); go_simp) <;> with_reducible rfl); try go_frame
 refine' tk 3 rfl rfl ?_ ?_; rotate_left; · ((intro w hSw; (try dsimp only at hSw); go_simp) <;> with_reducible rfl); try go_frame
 refine' tk 4 rfl rfl ?_ ?_; rotate_left; · ((intro w hSw; (try dsimp only at hSw); go_simp) <;> with_reducible rfl); try go_frame
 refine' tk 5 rfl rfl ?_ ?_; rotate_left; · ((intro w hSw; (try dsimp only at hSw); go_simp) <;> with_reducible rfl); try go_frame
 refine' tk 6 rfl rfl ?_ ?_; rotate_left; · ((intro w hSw; (try dsimp only at hSw); go_simp) <;> with_reducible rfl); try go_frame
 refine' tk 7 rfl rfl ?_ ?_; rotate_left; · ((intro w hSw; (try dsimp only at hSw); go_simp) <;> with_reducible rfl); try go_frame
 refine wpAnyH_ready (rs := [8]) (by kernel_rfl) (by simp) ?_; refine consH rfl (fun K hK => ?_) AllReadyH.nil
 go_simp
 (go_at_call 50; (with_reducible refine G1.out.mono ?_))
 rintro e w3 ⟨A3, a3, SS, rfl, hG, hO3, X3, m1, m2, m3, m4⟩
 have B4 : Blk w3 q 73 (plA c g ch (ptr0 k.g) ow now) := B3.out.chg m2 hqX
 have hc4 := hc3.out.trans m2 (fun b hb e => by have := hX b e; omega)
 have hq3 : ¬ X3 q := fun e => by
  rcases m3 q e with f | f
  · exact hqX f
  ·
   have := B3.out.lt
   omega
 refine hK.out _ _ ⟨B4.cell 27, B4.cell 29⟩ (fun _ => ?_)
 clear hK K hHeld m2 m3 m4 B3 hc3 G1 hO3
 try go_frame
 refine wpAnyH_done (by kernel_rfl) ?_ _
 replace B4 := Lib.hid B4
 replace hc4 := Lib.hid hc4
 replace m1 := Lib.hid m1
 replace hG := Lib.hid hG
 go_wp2_with (go_at_call 51; (with_reducible refine (load_new _).mono ?_); rintro e w4 ⟨gl, bl, rfl, hL4, hgl, hbl, hb4⟩; have c28 : w4.cell? ⟨q, 28, none⟩ = some ow := (B4.out.call hb4).cell 28; have f28 : w4.frozen? ⟨q, 28, none⟩ = false := (B4.out.call hb4).frozen 28)
 have hq3z := B4.out.lt
 have B5 : Blk (w4.setCell ⟨q, 28, none⟩ (ptr0 gl)) q 73 (plA c g ch (ptr0 k.g) (ptr0 gl) now) := (B4.out.call hb4).set_ 28 (ptr0 gl)
 have hs5 := Chg.setCell (p := ⟨q, 28, none⟩) (Chg.refl (· = q) w4) (fun _ => rfl) (ptr0 gl)
 have hc5 := (hc4.out.trans (G := (· = q)) (Chg.of_below hb4) (fun _ _ h => h)).trans hs5 (fun _ _ h => h)
 have hK5 := keepOb_ok.chg (keepOb_ok.call m1.out hb4) hs5 (fun y hy e => hq3 (e ▸ hy))
 have hL5 := hL4.chg hs5 (fun e => by omega) (fun e => by omega)
 clear c28 f28
 generalize w4.setCell ⟨q, 28, none⟩ (ptr0 gl) = w5 at *
 go_end0
 exact ⟨k, X3, SS, gl, bl, rfl, B5, hG.out, hK5, hL5, hc5⟩
set_option maxRecDepth 100000 in
set_option maxHeartbeats 4000000 in
theorem plane_new (c : PCfg) (hc : pcfgOk c = true) (w : World) : Calls Tryz.prog 7 #[c.val] w fun e w' => ∃ q rg gc gl bl k X SS, e = .returned (.tuple #[ptr0 q, .int .i64 0]) ∧ Blk w' q 73 (plA c (ptr0 rg) (ptr0 gc) (ptr0 k.g) (ptr0 gl) 0) ∧ Blk w' rg 108 (regA c) ∧ KGoS c.r (kNew c.r) 0 SS ∧ keepOb k c.r (kGo c.r (kNew c.r) 0 SS) w' X ∧ LoadAt w' gl bl [] ∧ Below w.heap.size w w' := by
 have PR := Lib.hid fun W => plane_right c W
 rw [hc] at PR
 unfold pcfgOk at hc
 simp only [Bool.and_eq_true] at hc
 obtain ⟨⟨⟨⟨⟨-, -⟩, -⟩, hr⟩, hp⟩, hh⟩ := hc
 have RN := Lib.hid fun W => registry_new c hh W
 have hb0 : Below w.heap.size w (w.alloc (.cells c.cells.toArray 49)) := below_alloc (Below.refl _ _) _
 have B0 := Blk.new w 49 c.cells.toArray
 go_enter Tryz.func7, Tryz.ntmps7
 go_upto_region 1 with fail
 change Code.wp _ _ _ _ (w.alloc (.cells c.cells.toArray 49))
 generalize w.alloc (.cells c.cells.toArray 49) = w1 at *
 obtain ⟨rk, hrk⟩ : ∃ r, w.heap.size = r := ⟨_, rfl⟩
 rw [hrk] at B0 hb0
 try rw [hrk]
 go_upto_region 3 with (first
  | (with_reducible refine wpList_load_blk rfl 49 (.tmp 1) rfl rk 0 rfl B0 c.cells rfl _ Tryz.underlying49 rfl (by kernel_rfl) ?_)
  | (go_at_call 18; (with_reducible refine (PR.out _).mono ?_); rintro e w2 ⟨rfl, hb2⟩))
 have B2 := B0.call hb2
 have hbb := below_call2 hb2 hb0 (by have := hb0.size; omega)
 clear B0 hb0 hb2
 go_upto_region 4 with (with_reducible refine wpList_load_blk rfl 49 (.tmp 1) rfl rk 0 rfl B2 c.cells rfl _ Tryz.underlying49 rfl (by kernel_rfl) ?_)
 change Code.wp _ _ _ _ (w2.alloc (.cells (plA c (.pointer none) (.pointer none) (.pointer none) (.pointer none) 0) 73))
 have B3 := Blk.new w2 73 (plA c (.pointer none) (.pointer none) (.pointer none) (.pointer none) 0)
 have hbb3 := Below.alloc hbb (by have := hbb.size; omega) (.cells (plA c (.pointer none) (.pointer none) (.pointer none) (.pointer none) 0) 73)
 have C3 := B2.alloc (.cells (plA c (.pointer none) (.pointer none) (.pointer none) (.pointer none) 0) 73)
 have hz2 := hbb.size
 have hq3 := B3.lt
 clear B2 hbb
 generalize w2.alloc (.cells (plA c (.pointer none) (.pointer none) (.pointer none) (.pointer none) 0) 73) = w3 at *
 obtain ⟨q, hq⟩ : ∃ q, w2.heap.size = q := ⟨_, rfl⟩
 rw [hq] at B3 hz2 hq3
 try rw [hq]
 clear hq
 go_upto_region 5 with (first
  | (with_reducible refine wpList_load_blk rfl 47 (.tmp 13) rfl rk 23 rfl C3 [.int .i64 c.ri, .int .i64 c.fa] rfl _ Tryz.underlying47 rfl (by kernel_rfl) ?_)
  | (go_at_call 19; (with_reducible refine (RN.out _).mono ?_); rintro e w4 ⟨rg, rfl, hrg, hR4, hb4⟩; have c25 : w4.cell? ⟨q, 25, none⟩ = some (.pointer none) := (B3.call hb4).cell 25; have f25 : w4.frozen? ⟨q, 25, none⟩ = false := (B3.call hb4).frozen 25))
 change Code.wp _ _ _ _ (w4.setCell ⟨q, 25, none⟩ (ptr0 rg))
 have B5 : Blk (w4.setCell ⟨q, 25, none⟩ (ptr0 rg)) q 73 (plA c (ptr0 rg) (.pointer none) (.pointer none) (.pointer none) 0) := (B3.call hb4).set_ 25 (ptr0 rg)
 have hs5 := Chg.setCell (p := ⟨q, 25, none⟩) (Chg.refl (· = q) w4) (fun _ => rfl) (ptr0 rg)
 have hrq : ¬ rg = q := by omega
 have R5 := hR4.chg hs5 hrq
 have hbb5 := below_chg (below_call2 hb4 hbb3 (by omega)) hs5 (fun y hy e => by have e2 : y = q := e; omega) (by have := hb4.size; omega)
 clear c25 f25 hs5 hb4 B3 C3 hR4 hbb3
 generalize w4.setCell ⟨q, 25, none⟩ (ptr0 rg) = w5 at *
 have hz5 := B5.lt
 have CH := Lib.hid (plane_choose hp B5)
 go_upto_region 6 with (go_at_call 20; (with_reducible refine CH.out.mono ?_); rintro e w6 ⟨gc, rfl, hgc, B6, hc6⟩)
 have AN := Lib.hid (plane_anew hr (show goOk 0 0 = true from by decide) B6)
 clear CH
 replace hc6 := Lib.hid hc6
 replace R5 := Lib.hid R5
 replace hbb5 := Lib.hid hbb5
 go_wp2_with (go_at_call 21; (with_reducible refine AN.out.mono ?_); rintro e w7 ⟨k, X, SS, gl, bl, rfl, B7, hG, hK, hL, hc7⟩)
 have hz6 := hc6.out.size
 have hbb7 := below_chg (below_chg hbb5.out hc6.out (fun y hy e => by have e2 : y = q := e; omega) (by omega)) hc7 (fun y hy e => by have e2 : y = q := e; omega) (by omega)
 go_ret2
 exact ⟨q, rg, gc, gl, bl, k, X, SS, rfl, B7, (R5.out.chg hc6.out hrq).chg hc7 hrq, hG, hK, hL, by rw [hrk]; exact hbb7⟩
end
section
variable {w w' : World} {X F : Nat → Prop} {k : KPtr} {r : KRule} {s : KSt}
end
end Go.Proofs.YtohapcacckapoaaGreat
