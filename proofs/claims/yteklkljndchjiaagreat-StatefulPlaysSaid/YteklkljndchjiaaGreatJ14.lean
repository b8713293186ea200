/- addr and its reference: Right, Put. tuple and its reference: Right. tuple: kind, Put; the reference: Right, Put. -/
import Derived.Test.YteklkljndchjiaaGreatJ9
import Derived.Deep.RegionHeld3
namespace Go.Proofs.YteklkljndchjiaaGreat
open Go Go.RowKit Go.Deep
def adrOk (v6:Bool) (hi lo:Nat):Bool:=v6 || (decide (hi=0) && decide (lo<4294967296))
def CY (v6:Bool) (hi lo:Nat):List UInt8:=if adrOk v6 hi lo then (if v6 then octB hi 8 ++ octB lo 8 else octB lo 4) else []
theorem BF (m k:Nat):(octB m k).length=k:=by simp [octB]
theorem CD (v6:Bool) (hi lo:Nat):(CY v6 hi lo).length≤16:=by
 unfold CY;split
 · split <;> simp [BF]
 · simp
theorem Fv (v6:Bool) (hi lo:Nat) (w:World):Calls Tryz.prog 185 #[.agg #[.bool v6,.int .u64 hi,.int .u64 lo]] w fun e w'=>e=.returned (.bool (adrOk v6 hi lo))∧Below w.heap.size w w':=by
 unfold adrOk
 cases v6
 ·
  by_cases h0:hi=0
  ·
   subst h0
   by_cases h1:lo<4294967296
   ·
    have h2:decide ((lo:Int)<4294967296)=true:=by simp;omega
    go_enter Tryz.func185,Tryz.ntmps185
    go_wp2_with fail
    go_ret
    exact ⟨by simp [h1],bw⟩
   ·
    have h2:decide ((lo:Int)<4294967296)=false:=by simp;omega
    go_enter Tryz.func185,Tryz.ntmps185
    go_wp2_with fail
    go_ret
    exact ⟨by simp [h1],bw⟩
  ·
   have h2:((hi:Int)==0)=false:=by simp;omega
   go_enter Tryz.func185,Tryz.ntmps185
   go_wp2_with fail
   go_ret
   exact ⟨by simp [h0],bw⟩
 ·
  go_enter Tryz.func185,Tryz.ntmps185
  go_wp2_with fail
  go_ret
  exact ⟨by simp,bw⟩
theorem DZ (v6:Bool) (hi lo:Nat) (w:World):Calls Tryz.prog 112 #[.agg #[.bool v6,.int .u64 hi,.int .u64 lo]] w fun e w'=>e=.returned (.bool (adrOk v6 hi lo))∧Below w.heap.size w w':=by
 unfold adrOk
 cases v6
 ·
  by_cases h0:hi=0
  ·
   subst h0
   by_cases h1:lo<4294967296
   ·
    have h2:decide ((lo:Int)<4294967296)=true:=by simp;omega
    go_enter Tryz.func112,Tryz.ntmps112
    go_wp2_with fail
    go_ret
    exact ⟨by simp [h1],bw⟩
   ·
    have h2:decide ((lo:Int)<4294967296)=false:=by simp;omega
    go_enter Tryz.func112,Tryz.ntmps112
    go_wp2_with fail
    go_ret
    exact ⟨by simp [h1],bw⟩
  ·
   have h2:((hi:Int)==0)=false:=by simp;omega
   go_enter Tryz.func112,Tryz.ntmps112
   go_wp2_with fail
   go_ret
   exact ⟨by simp [h0],bw⟩
 ·
  go_enter Tryz.func112,Tryz.ntmps112
  go_wp2_with fail
  go_ret
  exact ⟨by simp,bw⟩
set_option maxHeartbeats 1000000 in
theorem Lv (v6:Bool) (hi lo:Nat) (w:World):Calls Tryz.prog 258 #[.agg #[.bool v6,.int .u64 hi,.int .u64 lo]] w fun e w'=>e=.returned (.string ⟨(CY v6 hi lo).toArray⟩)∧Below w.heap.size w w':=by
 have R:=Fv v6 hi lo
 unfold CY
 obtain ⟨o,ho⟩:∃ o,adrOk v6 hi lo=o:=⟨_,rfl⟩
 rw [ho] at R ⊢
 replace R:=Lib.hid R
 replace ho:=Lib.hid ho
 cases o
 ·
  go_enter Tryz.func258,Tryz.ntmps258
  go_wp2_with (go_at_call 185;refine (R.out _).mono ?_;rintro e w1 ⟨rfl,hb1⟩)
  go_ret
  exact ⟨rfl,bw⟩
 ·
  cases v6
  ·
   go_enter Tryz.func258,Tryz.ntmps258
   go_wp2_with (first | (go_at_call 185;refine (R.out _).mono ?_;rintro e w1 ⟨rfl,hb1⟩;obtain ⟨hc1,hf1⟩:=bcell hb1) | (go_at_call 256;refine (K8 lo 4 _ (by omega) (by omega)).mono ?_;rintro e w2 ⟨rfl,hb2⟩))
   go_ret
   exact ⟨rfl,bw⟩
  ·
   have l1:=BF hi 8
   have l2:=BF lo 8
   have hB0:=Blk.new w 45 #[.bool true,.int .u64 hi,.int .u64 lo]
   have hb0:Below w.heap.size w (w.alloc (.cells #[.bool true,.int .u64 hi,.int .u64 lo] 45)):=bw
   have hal:¬ 9223372036854775807<(octB hi 8).length+(octB lo 8).length:=by omega
   go_enter Tryz.func258,Tryz.ntmps258
   go_wp2_with (first | (go_at_call 185;refine (R.out _).mono ?_;rintro e w1 ⟨rfl,hb1⟩;obtain ⟨hc1,hf1⟩:=bcell hb1))
   clear hc1 hf1
   have hB:=hB0.below hb1 hB0.lt
   have c1:=hB.cell 1
   have c2:=hB.cell 2
   simp at c1 c2
   have hbA:=A8 hb1 hb0
   clear hb1 hB0 hb0 hB R
   replace l1:=Lib.hid l1
   replace l2:=Lib.hid l2
   go_region_held3 (fun w'=>Below w1.heap.size w1 w'∧w'.cell? ⟨w.heap.size,1,none⟩=some (.int .u64 hi)∧w'.cell? ⟨w.heap.size,2,none⟩=some (.int .u64 lo)) ((first | assumption | ((refine ⟨?_,?_⟩;(first | assumption | exact (Below.refl _ _).drew | exact Below.refl _ _);go_keep)))) (first
    | (go_at_call 256;refine (K8 _ 8 _ (by omega) (by omega)).mono ?_;rintro e w2 ⟨rfl,hb2⟩;have hS:=hold2 (by assumption) hb2))
   all_goals
    go_wp2_with fail
    go_ret
    refine ⟨?_,A8 (by exact hS.1) hbA⟩
    rw [← CA];rfl
set_option maxHeartbeats 1000000 in
theorem H8 (v6:Bool) (hi lo:Nat) (w:World) (hhi:hi<18446744073709551616) (hlo:lo<18446744073709551616):Calls Tryz.prog 267 #[.agg #[.bool v6,.int .u64 hi,.int .u64 lo]] w fun e w'=>e=.returned (.string ⟨(CY v6 hi lo).toArray⟩)∧Below w.heap.size w w':=by
 have R:=DZ v6 hi lo
 unfold CY
 obtain ⟨o,ho⟩:∃ o,adrOk v6 hi lo=o:=⟨_,rfl⟩
 rw [ho] at R ⊢
 replace R:=Lib.hid R
 replace ho:=Lib.hid ho
 cases o
 ·
  go_enter Tryz.func267,Tryz.ntmps267
  go_wp2_with (go_at_call 112;refine (R.out _).mono ?_;rintro e w1 ⟨rfl,hb1⟩)
  go_ret
  exact ⟨rfl,bw⟩
 ·
  cases v6
  ·
   go_enter Tryz.func267,Tryz.ntmps267
   go_wp2_with (first | (go_at_call 112;refine (R.out _).mono ?_;rintro e w1 ⟨rfl,hb1⟩;obtain ⟨hc1,hf1⟩:=bcell hb1) | (go_at_call 266;refine (Fs lo 4 _ hlo (by omega)).mono ?_;rintro e w2 ⟨rfl,hb2⟩))
   go_ret
   exact ⟨rfl,bw⟩
  ·
   have l1:=BF hi 8
   have l2:=BF lo 8
   have hB0:=Blk.new w 45 #[.bool true,.int .u64 hi,.int .u64 lo]
   have hb0:Below w.heap.size w (w.alloc (.cells #[.bool true,.int .u64 hi,.int .u64 lo] 45)):=bw
   have hal:¬ 9223372036854775807<(octB hi 8).length+(octB lo 8).length:=by omega
   go_enter Tryz.func267,Tryz.ntmps267
   go_wp2_with (first | (go_at_call 112;refine (R.out _).mono ?_;rintro e w1 ⟨rfl,hb1⟩;obtain ⟨hc1,hf1⟩:=bcell hb1))
   clear hc1 hf1
   have hB:=hB0.below hb1 hB0.lt
   have c1:=hB.cell 1
   have c2:=hB.cell 2
   simp at c1 c2
   have hbA:=A8 hb1 hb0
   clear hb1 hB0 hb0 hB R
   replace l1:=Lib.hid l1
   replace l2:=Lib.hid l2
   go_region_held3 (fun w'=>Below w1.heap.size w1 w'∧w'.cell? ⟨w.heap.size,1,none⟩=some (.int .u64 hi)∧w'.cell? ⟨w.heap.size,2,none⟩=some (.int .u64 lo)) ((first | assumption | ((refine ⟨?_,?_⟩;(first | assumption | exact (Below.refl _ _).drew | exact Below.refl _ _);go_keep)))) (first
    | (go_at_call 266;refine (Fs _ 8 _ (by assumption) (by omega)).mono ?_;rintro e w2 ⟨rfl,hb2⟩;have hS:=hold2 (by assumption) hb2))
   all_goals
    go_wp2_with fail
    go_ret
    refine ⟨?_,A8 (by exact hS.1) hbA⟩
    rw [← CA];rfl
def tinB (n m:Int):Bool:=decide (0≤n) && decide (n≤m)
structure Tup where
 p:Int
 v:Bool
 hi:Nat
 lo:Nat
 v':Bool
 hi':Nat
 lo':Nat
 sp:Int
 dp:Int
def tupOk (t:Tup):Bool:=tinB t.p 255 && (tinB t.sp 65535 && tinB t.dp 65535) && adrOk t.v t.hi t.lo && adrOk t.v' t.hi' t.lo' && t.v==t.v'
abbrev Tup.val (t:Tup):Value:=.agg #[.int .i64 t.p,.bool t.v,.int .u64 t.hi,.int .u64 t.lo,.bool t.v',.int .u64 t.hi',.int .u64 t.lo',.int .i64 t.sp,.int .i64 t.dp]
abbrev Tup.cells (t:Tup):List Value:=[.int .i64 t.p,.bool t.v,.int .u64 t.hi,.int .u64 t.lo,.bool t.v',.int .u64 t.hi',.int .u64 t.lo',.int .i64 t.sp,.int .i64 t.dp]
theorem Fw {n m:Int} (h:tinB n m=true):0≤n∧n≤m:=by simpa [tinB] using h
theorem tinB_f {n m:Int} (h:tinB n m=false):n<0∨(0≤n∧m<n):=by simp [tinB] at h;omega
theorem I0 (m:Int) (A:Option Addr) (c:Nat) (xs:List Int) (w:World) (hr:Reads w w.heap.size 1 A xs.length (xs.map (.int .i64))) (hn:xs.length≤1000000) :
  Calls Tryz.prog 214 #[.int .i64 m,.slice A xs.length c] w fun e w'=>e=.returned (.bool (xs.all (tinB · m)))∧w=w':=by
 go_enter Tryz.func214,Tryz.ntmps214
 go_wp2_with fail
 go_loop [9] (fun i=>∃ k:Nat,k≤xs.length∧i=.int .i64 (k:Nat)∧(xs.take k).all (tinB · m)=true) (fun i=>xs.length - (intOf i).toNat)
 case atStart=>exact ⟨0,by omega,rfl,by simp⟩
 case round =>
  obtain ⟨k,hk,rfl,hall⟩:=hrel
  replace hall:=Lib.hid hall
  by_cases hlt:k<xs.length
  ·
   have hlti:(k:Int)<(xs.length:Int):=by omega
   obtain ⟨ad,u,rfl,hb,hu,hc⟩:=hr.at_ hlt
   rw [List.getElem?_map,List.getElem?_eq_getElem hlt] at hu
   simp at hu
   obtain ⟨x,hx⟩:∃ x,xs[k]=x:=⟨_,rfl⟩
   rw [hx] at hu
   subst hu
   replace hx:=Lib.hid hx
   by_cases hb1:tinB x m=true
   ·
    obtain ⟨b1,b2⟩:=Fw hb1
    replace hb1:=Lib.hid hb1
    have d1:decide (x<0)=false:=by simp;omega
    have d2:decide (m<x)=false:=by simp;omega
    go_wp2_with fail
    go_round
    case rel=>exact ⟨k+1,by omega,by go_num,by rw [List.take_succ_eq_append_getElem hlt,List.all_append,hall.out,hx.out];simp [hb1.out]⟩
    case measure=>simp [intOf];omega
   ·
    have hb2:tinB x m=false:=by simpa using hb1
    have hfin:xs.all (tinB · m)=false:=by
     rw [List.all_eq_false];exact ⟨x,by rw [← hx.out];exact List.getElem_mem hlt,by simpa using hb1⟩
    replace hfin:=Lib.hid hfin
    clear hb1
    rcases tinB_f hb2 with b | ⟨b1,b2⟩
    ·
     have d1:decide (x<0)=true:=by simp;omega
     clear hb2
     go_wp2_with fail
     go_ret
     exact ⟨by rw [hfin.out];rfl,rfl⟩
    ·
     have d1:decide (x<0)=false:=by simp;omega
     have d2:decide (m<x)=true:=by simp;omega
     clear hb2
     go_wp2_with fail
     go_ret
     exact ⟨by rw [hfin.out];rfl,rfl⟩
  ·
   obtain rfl:k=xs.length:=by omega
   rw [List.take_length] at hall
   go_wp2_with fail
   go_ret
   exact ⟨by rw [hall.out];rfl,rfl⟩
theorem N7 (n m:Int) (w:World):Calls Tryz.prog 222 #[.int .i64 n,.int .i64 m] w fun e w'=>e=.returned (.bool (tinB n m))∧w=w':=by
 by_cases h:0≤n
 ·
  by_cases h2:n≤m
  ·
   have d1:decide (0≤n)=true:=by simp;omega
   have d2:decide (n≤m)=true:=by simp;omega
   go_enter Tryz.func222,Tryz.ntmps222
   go_wp2_with fail
   go_ret
   exact ⟨by simp [tinB,h,h2],rfl⟩
  ·
   have d1:decide (0≤n)=true:=by simp;omega
   have d2:decide (n≤m)=false:=by simp;omega
   go_enter Tryz.func222,Tryz.ntmps222
   go_wp2_with fail
   go_ret
   exact ⟨by simp [tinB,h2],rfl⟩
 ·
  have d1:decide (0≤n)=false:=by simp;omega
  go_enter Tryz.func222,Tryz.ntmps222
  go_wp2_with fail
  go_ret
  exact ⟨by simp [tinB];omega,rfl⟩
theorem Si (m n:Int) (g:Nat) (W:World) (hg:g=W.heap.size):Calls Tryz.prog 214 #[.int .i64 m,.slice (some ⟨g,0,none⟩) 1 1] (W.alloc (.cells #[.int .i64 n] 3)) fun e w'=>e=.returned (.bool (tinB n m))∧W.alloc (.cells #[.int .i64 n] 3)=w':=by
 subst hg
 refine (I0 m _ 1 [n] _ (HV W _ 3 [n] (by simp)) (by simp)).mono ?_
 rintro e w' ⟨rfl,rfl⟩
 exact ⟨by simp,rfl⟩
theorem Sj (m n k:Int) (g:Nat) (W:World) (hg:g=W.heap.size):Calls Tryz.prog 214 #[.int .i64 m,.slice (some ⟨g,0,none⟩) 2 2] (W.alloc (.cells #[.int .i64 n,.int .i64 k] 3)) fun e w'=>e=.returned (.bool (tinB n m && tinB k m))∧W.alloc (.cells #[.int .i64 n,.int .i64 k] 3)=w':=by
 subst hg
 refine (I0 m _ 2 [n,k] _ (HV W _ 3 [n,k] (by simp)) (by simp)).mono ?_
 rintro e w' ⟨rfl,rfl⟩
 exact ⟨by simp,rfl⟩
set_option maxHeartbeats 1000000 in
theorem H9 (t:Tup) (w:World):Calls Tryz.prog 145 #[t.val] w fun e w'=>e=.returned (.bool (tupOk t))∧Below w.heap.size w w':=by
 obtain ⟨p,v,hi,lo,v',hi',lo',sp,dp⟩:=t
 have W1:=Si 255 p
 have W2:=Sj 65535 sp dp
 have A1:=Fv v hi lo
 have A2:=Fv v' hi' lo'
 unfold tupOk Tup.val
 dsimp only
 obtain ⟨o1,h1⟩:∃ o,tinB p 255=o:=⟨_,rfl⟩
 obtain ⟨o2,h2⟩:∃ o,(tinB sp 65535 && tinB dp 65535)=o:=⟨_,rfl⟩
 obtain ⟨o3,h3⟩:∃ o,adrOk v hi lo=o:=⟨_,rfl⟩
 obtain ⟨o4,h4⟩:∃ o,adrOk v' hi' lo'=o:=⟨_,rfl⟩
 obtain ⟨o5,h5⟩:∃ o,(v==v')=o:=⟨_,rfl⟩
 rw [h1] at W1 ⊢
 rw [h2] at W2 ⊢
 rw [h3] at A1 ⊢
 rw [h4] at A2 ⊢
 rw [h5]
 clear h1 h2 h3 h4
 replace W1:=Lib.hid W1
 replace W2:=Lib.hid W2
 replace A1:=Lib.hid A1
 replace A2:=Lib.hid A2
 have hB0:=Blk.new w 47 #[.int .i64 p,.bool v,.int .u64 hi,.int .u64 lo,.bool v',.int .u64 hi',.int .u64 lo',.int .i64 sp,.int .i64 dp]
 have hb0:Below w.heap.size w (w.alloc (.cells #[.int .i64 p,.bool v,.int .u64 hi,.int .u64 lo,.bool v',.int .u64 hi',.int .u64 lo',.int .i64 sp,.int .i64 dp] 47)):=bw
 cases o1
 ·
  go_enter Tryz.func145,Tryz.ntmps145
  go_wp2_with (first
   | (go_at_call 214;with_reducible refine (W1.out _ _ (by simp)).mono ?_;rintro e w1 ⟨rfl,rfl⟩)
   | (go_at_call 214;with_reducible refine (W2.out _ _ (by simp)).mono ?_;rintro e w1 ⟨rfl,rfl⟩)
   | (go_at_call 185;with_reducible refine (A1.out _).mono ?_;rintro e w1 ⟨rfl,hb1⟩;obtain ⟨hc1,hf1⟩:=bcell hb1)
   | (go_at_call 185;with_reducible refine (A2.out _).mono ?_;rintro e w1 ⟨rfl,hb2⟩;obtain ⟨hc2,hf2⟩:=bcell hb2))
  go_ret
  exact ⟨rfl,bw⟩
 cases o2
 ·
  go_enter Tryz.func145,Tryz.ntmps145
  go_wp2_with (first
   | (go_at_call 214;with_reducible refine (W1.out _ _ (by simp)).mono ?_;rintro e w1 ⟨rfl,rfl⟩)
   | (go_at_call 214;with_reducible refine (W2.out _ _ (by simp)).mono ?_;rintro e w1 ⟨rfl,rfl⟩)
   | (go_at_call 185;with_reducible refine (A1.out _).mono ?_;rintro e w1 ⟨rfl,hb1⟩;obtain ⟨hc1,hf1⟩:=bcell hb1)
   | (go_at_call 185;with_reducible refine (A2.out _).mono ?_;rintro e w1 ⟨rfl,hb2⟩;obtain ⟨hc2,hf2⟩:=bcell hb2))
  go_ret
  exact ⟨rfl,bw⟩
 cases o3
 ·
  go_enter Tryz.func145,Tryz.ntmps145
  go_wp2_with (first
   | (go_at_call 214;with_reducible refine (W1.out _ _ (by simp)).mono ?_;rintro e w1 ⟨rfl,rfl⟩)
   | (go_at_call 214;with_reducible refine (W2.out _ _ (by simp)).mono ?_;rintro e w1 ⟨rfl,rfl⟩)
   | (go_at_call 185;with_reducible refine (A1.out _).mono ?_;rintro e w1 ⟨rfl,hb1⟩;obtain ⟨hc1,hf1⟩:=bcell hb1)
   | (go_at_call 185;with_reducible refine (A2.out _).mono ?_;rintro e w1 ⟨rfl,hb2⟩;obtain ⟨hc2,hf2⟩:=bcell hb2))
  go_ret
  exact ⟨rfl,bw⟩
 cases o4
 ·
  go_enter Tryz.func145,Tryz.ntmps145
  go_wp2_with (first
   | (go_at_call 214;with_reducible refine (W1.out _ _ (by simp)).mono ?_;rintro e w1 ⟨rfl,rfl⟩)
   | (go_at_call 214;with_reducible refine (W2.out _ _ (by simp)).mono ?_;rintro e w1 ⟨rfl,rfl⟩)
   | (go_at_call 185;with_reducible refine (A1.out _).mono ?_;rintro e w1 ⟨rfl,hb1⟩;obtain ⟨hc1,hf1⟩:=bcell hb1)
   | (go_at_call 185;with_reducible refine (A2.out _).mono ?_;rintro e w1 ⟨rfl,hb2⟩;obtain ⟨hc2,hf2⟩:=bcell hb2))
  go_ret
  exact ⟨rfl,bw⟩
 ·
  go_enter Tryz.func145,Tryz.ntmps145
  go_wp2_with (first
   | (go_at_call 214;with_reducible refine (W1.out _ _ (by simp)).mono ?_;rintro e w1 ⟨rfl,rfl⟩)
   | (go_at_call 214;with_reducible refine (W2.out _ _ (by simp)).mono ?_;rintro e w1 ⟨rfl,rfl⟩)
   | (go_at_call 185;with_reducible refine (A1.out _).mono ?_;rintro e w1 ⟨rfl,hb1⟩;obtain ⟨hc1,hf1⟩:=bcell hb1)
   | (go_at_call 185;with_reducible refine (A2.out _).mono ?_;rintro e w1 ⟨rfl,hb2⟩;have B1:=(hB0.alloc (.cells #[.int .i64 p] 3)).alloc (.cells #[.int .i64 sp,.int .i64 dp] 3);have B2:=(B1.below hb1 B1.lt);have B3:=B2.below hb2 B2.lt;have k1:=B3.cell 1;have k4:=B3.cell 4;clear hc1 hf1 B1 B2 B3;simp at k1 k4))
  go_ret
  exact ⟨rfl,bw⟩
set_option maxHeartbeats 1000000 in
theorem EG (t:Tup) (w:World):Calls Tryz.prog 151 #[t.val] w fun e w'=>e=.returned (.bool (tupOk t))∧Below w.heap.size w w':=by
 obtain ⟨p,v,hi,lo,v',hi',lo',sp,dp⟩:=t
 have W1:=N7 p 255
 have W2:=N7 sp 65535
 have W3:=N7 dp 65535
 have A1:=DZ v hi lo
 have A2:=DZ v' hi' lo'
 unfold tupOk Tup.val
 dsimp only
 obtain ⟨o1,h1⟩:∃ o,tinB p 255=o:=⟨_,rfl⟩
 obtain ⟨o2,h2⟩:∃ o,tinB sp 65535=o:=⟨_,rfl⟩
 obtain ⟨o6,h6⟩:∃ o,tinB dp 65535=o:=⟨_,rfl⟩
 obtain ⟨o3,h3⟩:∃ o,adrOk v hi lo=o:=⟨_,rfl⟩
 obtain ⟨o4,h4⟩:∃ o,adrOk v' hi' lo'=o:=⟨_,rfl⟩
 obtain ⟨o5,h5⟩:∃ o,(v==v')=o:=⟨_,rfl⟩
 rw [h1] at W1 ⊢
 rw [h2] at W2 ⊢
 rw [h6] at W3 ⊢
 rw [h3] at A1 ⊢
 rw [h4] at A2 ⊢
 rw [h5]
 clear h1 h2 h3 h4 h6
 replace W1:=Lib.hid W1
 replace W2:=Lib.hid W2
 replace W3:=Lib.hid W3
 replace A1:=Lib.hid A1
 replace A2:=Lib.hid A2
 have tok1:True:=trivial
 have hB0:=Blk.new w 47 #[.int .i64 p,.bool v,.int .u64 hi,.int .u64 lo,.bool v',.int .u64 hi',.int .u64 lo',.int .i64 sp,.int .i64 dp]
 have hb0:Below w.heap.size w (w.alloc (.cells #[.int .i64 p,.bool v,.int .u64 hi,.int .u64 lo,.bool v',.int .u64 hi',.int .u64 lo',.int .i64 sp,.int .i64 dp] 47)):=bw
 cases o1
 ·
  go_enter Tryz.func151,Tryz.ntmps151
  go_wp2_with (first
   | (go_at_call 222;with_reducible refine (W1.out _).mono ?_;rintro e w1 ⟨rfl,rfl⟩)
   | (go_at_call 222;with_reducible refine (W2.out _).mono ?_;rintro e w1 ⟨rfl,rfl⟩)
   | (go_at_call 222;with_reducible refine (W3.out _).mono ?_;rintro e w1 ⟨rfl,rfl⟩)
   | (go_at_call 112;have tok0:=tok1;with_reducible refine (A1.out _).mono ?_;rintro e w1 ⟨rfl,hb1⟩;clear tok1 tok0;have B1:=hB0.below hb1 hB0.lt;have k4:=B1.cell 4;have k5:=B1.cell 5;have k6:=B1.cell 6;simp at k4 k5 k6)
   | (go_at_call 112;with_reducible refine (A2.out _).mono ?_;rintro e w2 ⟨rfl,hb2⟩;clear k4 k5 k6;have B2:=B1.below hb2 B1.lt;have k1:=B2.cell 1;have k4:=B2.cell 4;have k7:=B2.cell 7;have k8:=B2.cell 8;simp at k1 k4 k7 k8))
  go_ret
  refine ⟨?_,bw⟩
  show Ending.returned (.bool _)=_
  simp
 cases o3
 ·
  go_enter Tryz.func151,Tryz.ntmps151
  go_wp2_with (first
   | (go_at_call 222;with_reducible refine (W1.out _).mono ?_;rintro e w1 ⟨rfl,rfl⟩)
   | (go_at_call 222;with_reducible refine (W2.out _).mono ?_;rintro e w1 ⟨rfl,rfl⟩)
   | (go_at_call 222;with_reducible refine (W3.out _).mono ?_;rintro e w1 ⟨rfl,rfl⟩)
   | (go_at_call 112;have tok0:=tok1;with_reducible refine (A1.out _).mono ?_;rintro e w1 ⟨rfl,hb1⟩;clear tok1 tok0;have B1:=hB0.below hb1 hB0.lt;have k4:=B1.cell 4;have k5:=B1.cell 5;have k6:=B1.cell 6;simp at k4 k5 k6)
   | (go_at_call 112;with_reducible refine (A2.out _).mono ?_;rintro e w2 ⟨rfl,hb2⟩;clear k4 k5 k6;have B2:=B1.below hb2 B1.lt;have k1:=B2.cell 1;have k4:=B2.cell 4;have k7:=B2.cell 7;have k8:=B2.cell 8;simp at k1 k4 k7 k8))
  go_ret
  refine ⟨?_,bw⟩
  show Ending.returned (.bool _)=_
  simp
 cases o4
 ·
  go_enter Tryz.func151,Tryz.ntmps151
  go_wp2_with (first
   | (go_at_call 222;with_reducible refine (W1.out _).mono ?_;rintro e w1 ⟨rfl,rfl⟩)
   | (go_at_call 222;with_reducible refine (W2.out _).mono ?_;rintro e w1 ⟨rfl,rfl⟩)
   | (go_at_call 222;with_reducible refine (W3.out _).mono ?_;rintro e w1 ⟨rfl,rfl⟩)
   | (go_at_call 112;have tok0:=tok1;with_reducible refine (A1.out _).mono ?_;rintro e w1 ⟨rfl,hb1⟩;clear tok1 tok0;have B1:=hB0.below hb1 hB0.lt;have k4:=B1.cell 4;have k5:=B1.cell 5;have k6:=B1.cell 6;simp at k4 k5 k6)
   | (go_at_call 112;with_reducible refine (A2.out _).mono ?_;rintro e w2 ⟨rfl,hb2⟩;clear k4 k5 k6;have B2:=B1.below hb2 B1.lt;have k1:=B2.cell 1;have k4:=B2.cell 4;have k7:=B2.cell 7;have k8:=B2.cell 8;simp at k1 k4 k7 k8))
  go_ret
  refine ⟨?_,bw⟩
  show Ending.returned (.bool _)=_
  simp
 cases o5
 ·
  go_enter Tryz.func151,Tryz.ntmps151
  go_wp2_with (first
   | (go_at_call 222;with_reducible refine (W1.out _).mono ?_;rintro e w1 ⟨rfl,rfl⟩)
   | (go_at_call 222;with_reducible refine (W2.out _).mono ?_;rintro e w1 ⟨rfl,rfl⟩)
   | (go_at_call 222;with_reducible refine (W3.out _).mono ?_;rintro e w1 ⟨rfl,rfl⟩)
   | (go_at_call 112;have tok0:=tok1;with_reducible refine (A1.out _).mono ?_;rintro e w1 ⟨rfl,hb1⟩;clear tok1 tok0;have B1:=hB0.below hb1 hB0.lt;have k4:=B1.cell 4;have k5:=B1.cell 5;have k6:=B1.cell 6;simp at k4 k5 k6)
   | (go_at_call 112;with_reducible refine (A2.out _).mono ?_;rintro e w2 ⟨rfl,hb2⟩;clear k4 k5 k6;have B2:=B1.below hb2 B1.lt;have k1:=B2.cell 1;have k4:=B2.cell 4;have k7:=B2.cell 7;have k8:=B2.cell 8;simp at k1 k4 k7 k8))
  go_ret
  refine ⟨?_,bw⟩
  show Ending.returned (.bool _)=_
  simp
 cases o2
 ·
  go_enter Tryz.func151,Tryz.ntmps151
  go_wp2_with (first
   | (go_at_call 222;with_reducible refine (W1.out _).mono ?_;rintro e w1 ⟨rfl,rfl⟩)
   | (go_at_call 222;with_reducible refine (W2.out _).mono ?_;rintro e w1 ⟨rfl,rfl⟩)
   | (go_at_call 222;with_reducible refine (W3.out _).mono ?_;rintro e w1 ⟨rfl,rfl⟩)
   | (go_at_call 112;have tok0:=tok1;with_reducible refine (A1.out _).mono ?_;rintro e w1 ⟨rfl,hb1⟩;clear tok1 tok0;have B1:=hB0.below hb1 hB0.lt;have k4:=B1.cell 4;have k5:=B1.cell 5;have k6:=B1.cell 6;simp at k4 k5 k6)
   | (go_at_call 112;with_reducible refine (A2.out _).mono ?_;rintro e w2 ⟨rfl,hb2⟩;clear k4 k5 k6;have B2:=B1.below hb2 B1.lt;have k1:=B2.cell 1;have k4:=B2.cell 4;have k7:=B2.cell 7;have k8:=B2.cell 8;simp at k1 k4 k7 k8))
  go_ret
  refine ⟨?_,bw⟩
  show Ending.returned (.bool _)=_
  simp
 cases o6
 ·
  go_enter Tryz.func151,Tryz.ntmps151
  go_wp2_with (first
   | (go_at_call 222;with_reducible refine (W1.out _).mono ?_;rintro e w1 ⟨rfl,rfl⟩)
   | (go_at_call 222;with_reducible refine (W2.out _).mono ?_;rintro e w1 ⟨rfl,rfl⟩)
   | (go_at_call 222;with_reducible refine (W3.out _).mono ?_;rintro e w1 ⟨rfl,rfl⟩)
   | (go_at_call 112;have tok0:=tok1;with_reducible refine (A1.out _).mono ?_;rintro e w1 ⟨rfl,hb1⟩;clear tok1 tok0;have B1:=hB0.below hb1 hB0.lt;have k4:=B1.cell 4;have k5:=B1.cell 5;have k6:=B1.cell 6;simp at k4 k5 k6)
   | (go_at_call 112;with_reducible refine (A2.out _).mono ?_;rintro e w2 ⟨rfl,hb2⟩;clear k4 k5 k6;have B2:=B1.below hb2 B1.lt;have k1:=B2.cell 1;have k4:=B2.cell 4;have k7:=B2.cell 7;have k8:=B2.cell 8;simp at k1 k4 k7 k8))
  go_ret
  refine ⟨?_,bw⟩
  show Ending.returned (.bool _)=_
  simp
 ·
  go_enter Tryz.func151,Tryz.ntmps151
  go_wp2_with (first
   | (go_at_call 222;with_reducible refine (W1.out _).mono ?_;rintro e w1 ⟨rfl,rfl⟩)
   | (go_at_call 222;with_reducible refine (W2.out _).mono ?_;rintro e w1 ⟨rfl,rfl⟩)
   | (go_at_call 222;with_reducible refine (W3.out _).mono ?_;rintro e w1 ⟨rfl,rfl⟩)
   | (go_at_call 112;have tok0:=tok1;with_reducible refine (A1.out _).mono ?_;rintro e w1 ⟨rfl,hb1⟩;clear tok1 tok0;have B1:=hB0.below hb1 hB0.lt;have k4:=B1.cell 4;have k5:=B1.cell 5;have k6:=B1.cell 6;simp at k4 k5 k6)
   | (go_at_call 112;with_reducible refine (A2.out _).mono ?_;rintro e w2 ⟨rfl,hb2⟩;clear k4 k5 k6;have B2:=B1.below hb2 B1.lt;have k1:=B2.cell 1;have k4:=B2.cell 4;have k7:=B2.cell 7;have k8:=B2.cell 8;simp at k1 k4 k7 k8))
  go_ret
  refine ⟨?_,bw⟩
  show Ending.returned (.bool _)=_
  simp
def kindN (b:Bool):Nat:=if b then 6 else 4
theorem Pt (b:Bool) (w:World):Calls Tryz.prog 257 #[.bool b] w fun e w'=>e=.returned (.int .i64 (kindN b:Nat))∧w=w':=by
 cases b
 ·
  go_enter Tryz.func257,Tryz.ntmps257
  go_wp2_with fail
  go_ret
  exact ⟨rfl,rfl⟩
 ·
  go_enter Tryz.func257,Tryz.ntmps257
  go_wp2_with fail
  go_ret
  exact ⟨rfl,rfl⟩
def BW (t:Tup):List UInt8:=if tupOk t then octB (kindN t.v * 256+t.p.toNat) 2 ++ CY t.v t.hi t.lo ++ CY t.v' t.hi' t.lo' ++ octB (t.sp.toNat * 65536+t.dp.toNat) 4 else []
theorem Ep (t:Tup):(BW t).length≤38:=by
 unfold BW;split
 ·
  have:=CD t.v t.hi t.lo
  have:=CD t.v' t.hi' t.lo'
  simp [BF];omega
 · simp
theorem Lw (n:Int) (m:Nat) (ki:Int) (k:Nat) (w:World) (hn:n=(m:Int)) (hk:ki=(k:Int)) (h1:1≤k) (h8:k≤8):Calls Tryz.prog 256 #[.int .u64 n,.int .i64 ki] w fun e w'=>e=.returned (.string ⟨(octB m k).toArray⟩)∧Below w.heap.size w w':=by
 subst hn;subst hk;exact K8 m k w h1 h8
theorem tnum1 (kd p:Nat) (hk:kd≤6) (hp:p≤255):IntKind.u64.wrap (bits BinOp.or IntKind.i64 (IntKind.i64.wrap ((kd:Int) * 256)) (p:Int))=((kd * 256+p:Nat):Int):=by
 rw [QN _ (by omega),show ((kd:Int) * 256)=((kd * 2 ^ 8:Nat):Int) by omega,or_i64 _ _ (by omega) (by omega),Lj _ _ _ (by omega),Fq _ (by omega)]
theorem tnum2 (sp dp:Nat) (h1:sp≤65535) (h2:dp≤65535):bits BinOp.or IntKind.u64 (IntKind.u64.wrap (IntKind.u64.wrap (sp:Int) * 65536)) (IntKind.u64.wrap (dp:Int))=((sp * 65536+dp:Nat):Int):=by
 rw [Fq sp (by omega),Fq dp (by omega),show ((sp:Int) * 65536)=((sp * 2 ^ 16:Nat):Int) by omega,Fq _ (by omega),or_u64 _ _ (by omega) (by omega),Lj _ _ _ (by omega)]
set_option maxRecDepth 100000 in
set_option maxHeartbeats 2000000 in
theorem JB (t:Tup) (w:World):Calls Tryz.prog 212 #[t.val] w fun e w'=>e=.returned (.string ⟨(BW t).toArray⟩)∧Below w.heap.size w w':=by
 have R:=H9 t
 have hbnd:tupOk t=true→tinB t.p 255=true∧tinB t.sp 65535=true∧tinB t.dp 65535=true:=by
  intro h;unfold tupOk at h;simp only [Bool.and_eq_true] at h;exact ⟨h.1.1.1.1,h.1.1.1.2.1,h.1.1.1.2.2⟩
 unfold BW
 obtain ⟨o,ho⟩:∃ o,tupOk t=o:=⟨_,rfl⟩
 rw [ho] at R hbnd ⊢
 replace R:=Lib.hid R
 cases o
 ·
  clear hbnd ho
  unfold Tup.val at *
  go_enter Tryz.func212,Tryz.ntmps212
  go_wp2_with (go_at_call 145;refine (R.out _).mono ?_;rintro e w1 ⟨rfl,hb1⟩)
  go_ret
  exact ⟨rfl,bw⟩
 ·
  obtain ⟨q1,q2,q3⟩:=hbnd rfl
  obtain ⟨p,v,hi,lo,v',hi',lo',sp,dp⟩:=t
  dsimp only at *
  obtain ⟨a1,a2⟩:=Fw q1
  obtain ⟨a3,a4⟩:=Fw q2
  obtain ⟨a5,a6⟩:=Fw q3
  obtain ⟨p,rfl⟩:=Int.eq_ofNat_of_zero_le a1
  obtain ⟨sp,rfl⟩:=Int.eq_ofNat_of_zero_le a3
  obtain ⟨dp,rfl⟩:=Int.eq_ofNat_of_zero_le a5
  clear q1 q2 q3 ho
  unfold Tup.val at R
  dsimp only at R ⊢
  have hB0:=Blk.new w 47 #[.int .i64 p,.bool v,.int .u64 hi,.int .u64 lo,.bool v',.int .u64 hi',.int .u64 lo',.int .i64 sp,.int .i64 dp]
  have hb0:Below w.heap.size w (w.alloc (.cells #[.int .i64 p,.bool v,.int .u64 hi,.int .u64 lo,.bool v',.int .u64 hi',.int .u64 lo',.int .i64 sp,.int .i64 dp] 47)):=bw
  obtain ⟨s1,e1⟩:∃ s,octB (kindN v * 256+p) 2=s:=⟨_,rfl⟩
  obtain ⟨s2,e2⟩:∃ s,CY v hi lo=s:=⟨_,rfl⟩
  obtain ⟨s3,e3⟩:∃ s,CY v' hi' lo'=s:=⟨_,rfl⟩
  obtain ⟨s4,e4⟩:∃ s,octB (sp * 65536+dp) 4=s:=⟨_,rfl⟩
  have K:=Pt v
  have hk:kindN v≤6:=by unfold kindN;split <;> omega
  generalize kindN v=kd at *
  have P1:=fun W=>Lw _ _ 2 2 W (tnum1 kd p hk (by omega)) rfl (by omega) (by omega)
  have P2:=fun W=>Lw _ _ 4 4 W (tnum2 sp dp (by omega) (by omega)) rfl (by omega) (by omega)
  have Q1:=Lv v hi lo
  have Q2:=Lv v' hi' lo'
  have l1:s1.length=2:=by rw [← e1,BF]
  have l2:s2.length≤16:=by rw [← e2];exact CD _ _ _
  have l3:s3.length≤16:=by rw [← e3];exact CD _ _ _
  have l4:s4.length=4:=by rw [← e4,BF]
  rw [e1] at P1
  rw [e4] at P2
  rw [e2] at Q1
  rw [e3] at Q2
  have hl1:¬ 9223372036854775807<s1.length+s2.length:=by omega
  have hl2:¬ 9223372036854775807<s1.length+s2.length+s3.length:=by omega
  have hl3:¬ 9223372036854775807<s1.length+s2.length+s3.length+s4.length:=by omega
  simp only [if_true,Int.toNat_natCast]
  rw [e1,e2,e3,e4]
  replace l1:=Lib.hid l1
  replace l4:=Lib.hid l4
  replace K:=Lib.hid K
  replace P1:=Lib.hid P1
  replace P2:=Lib.hid P2
  replace Q1:=Lib.hid Q1
  replace Q2:=Lib.hid Q2
  clear e1 e2 e3 e4
  go_enter Tryz.func212,Tryz.ntmps212
  go_wp2_with (go_at_call 145;refine (R.out _).mono ?_;rintro e w1 ⟨rfl,hb1⟩)
  have hB:=hB0.below hb1 hB0.lt
  have c0:=hB.cell 0
  have c1:=hB.cell 1
  have c2:=hB.cell 2
  have c3:=hB.cell 3
  have c4:=hB.cell 4
  have c5:=hB.cell 5
  have c6:=hB.cell 6
  have c7:=hB.cell 7
  have c8:=hB.cell 8
  simp at c0 c1 c2 c3 c4 c5 c6 c7 c8
  have hbA:=A8 hb1 hb0
  clear hb1 hB0 hb0 hB R
  go_region_held3 (fun w'=>Below w1.heap.size w1 w'∧w'.cell? ⟨w.heap.size,0,none⟩=some (.int .i64 p)∧w'.cell? ⟨w.heap.size,1,none⟩=some (.bool v)∧w'.cell? ⟨w.heap.size,2,none⟩=some (.int .u64 hi)∧w'.cell? ⟨w.heap.size,3,none⟩=some (.int .u64 lo)∧w'.cell? ⟨w.heap.size,4,none⟩=some (.bool v')∧w'.cell? ⟨w.heap.size,5,none⟩=some (.int .u64 hi')∧w'.cell? ⟨w.heap.size,6,none⟩=some (.int .u64 lo')∧w'.cell? ⟨w.heap.size,7,none⟩=some (.int .i64 sp)∧w'.cell? ⟨w.heap.size,8,none⟩=some (.int .i64 dp)) ((first | assumption | ((refine ⟨?_,?_⟩;(first | assumption | exact (Below.refl _ _).drew | exact Below.refl _ _);go_keep)))) (first
    | (go_at_call 257;refine (K.out _).mono ?_;rintro e w2 ⟨rfl,rfl⟩)
    | (go_at_call 256;with_reducible refine (P1.out _).mono ?_;rintro e w3 ⟨rfl,hb3⟩;have hS:=hold9 (by assumption) hb3)
    | (go_at_call 256;with_reducible refine (P2.out _).mono ?_;rintro e w6 ⟨rfl,hb6⟩;have hS:=hold9 (by assumption) hb6)
    | (go_at_call 258;with_reducible refine (Q1.out _).mono ?_;rintro e w4 ⟨rfl,hb4⟩;have hS:=hold9 (by assumption) hb4)
    | (go_at_call 258;with_reducible refine (Q2.out _).mono ?_;rintro e w5 ⟨rfl,hb5⟩;have hS:=hold9 (by assumption) hb5))
  all_goals
   go_wp2_with fail
   go_ret
   refine ⟨?_,A8 (by exact hS.1) hbA⟩
   show Ending.returned (.string _)=Ending.returned (.string _)
   simp only [CA,List.append_assoc]
theorem u8_eq {x y:Nat} (h:x % 256=y % 256):UInt8.ofNat x=UInt8.ofNat y:=UInt8.toNat_inj.1 (by simpa using h)
theorem Oz (a b:Nat) (h:b<256):octB (a * 256+b) 2=octB a 1 ++ octB b 1:=by
 simp only [octB,octAt,List.range,List.range.loop,List.map_cons,List.map_nil,List.singleton_append]
 rw [u8_eq (x:=(a * 256+b) / 2 ^ (8 * (2 - 1 - 0))) (y:=a / 2 ^ (8 * (1 - 1 - 0))) (by first | (simp;done) | (simp;omega)),u8_eq (x:=(a * 256+b) / 2 ^ (8 * (2 - 1 - 1))) (y:=b / 2 ^ (8 * (1 - 1 - 0))) (by first | (simp;done) | (simp;omega))]
theorem OA (a b:Nat) (h:b<65536):octB (a * 65536+b) 4=octB a 2 ++ octB b 2:=by
 simp only [octB,octAt,List.range,List.range.loop,List.map_cons,List.map_nil,List.cons_append,List.nil_append]
 rw [u8_eq (x:=(a * 65536+b) / 2 ^ (8 * (4 - 1 - 0))) (y:=a / 2 ^ (8 * (2 - 1 - 0))) (by first | (simp;done) | (simp;omega)),u8_eq (x:=(a * 65536+b) / 2 ^ (8 * (4 - 1 - 1))) (y:=a / 2 ^ (8 * (2 - 1 - 1))) (by first | (simp;done) | (simp;omega)),u8_eq (x:=(a * 65536+b) / 2 ^ (8 * (4 - 1 - 2))) (y:=b / 2 ^ (8 * (2 - 1 - 0))) (by first | (simp;done) | (simp;omega)),u8_eq (x:=(a * 65536+b) / 2 ^ (8 * (4 - 1 - 3))) (y:=b / 2 ^ (8 * (2 - 1 - 1))) (by first | (simp;done) | (simp;omega))]
theorem CS (n:Int) (m:Nat) (ki:Int) (k:Nat) (w:World) (hm:m<18446744073709551616) (hn:n=(m:Int)) (hk:ki=(k:Int)) (h8:k≤8):Calls Tryz.prog 266 #[.int .u64 n,.int .i64 ki] w fun e w'=>e=.returned (.string ⟨(octB m k).toArray⟩)∧Below w.heap.size w w':=by
 subst hn;subst hk;exact Fs m k w hm h8
set_option maxRecDepth 100000 in
set_option maxHeartbeats 4000000 in
theorem G6 (t:Tup) (w:World) (x1:t.hi<18446744073709551616) (x2:t.lo<18446744073709551616) (x3:t.hi'<18446744073709551616) (x4:t.lo'<18446744073709551616):Calls Tryz.prog 220 #[t.val] w fun e w'=>e=.returned (.string ⟨(BW t).toArray⟩)∧Below w.heap.size w w':=by
 have R:=EG t
 have hbnd:tupOk t=true→tinB t.p 255=true∧tinB t.sp 65535=true∧tinB t.dp 65535=true:=by
  intro h;unfold tupOk at h;simp only [Bool.and_eq_true] at h;exact ⟨h.1.1.1.1,h.1.1.1.2.1,h.1.1.1.2.2⟩
 unfold BW
 obtain ⟨o,ho⟩:∃ o,tupOk t=o:=⟨_,rfl⟩
 rw [ho] at R hbnd ⊢
 replace R:=Lib.hid R
 cases o
 ·
  clear hbnd ho
  unfold Tup.val at *
  go_enter Tryz.func220,Tryz.ntmps220
  go_wp2_with (go_at_call 151;refine (R.out _).mono ?_;rintro e w1 ⟨rfl,hb1⟩)
  go_ret
  exact ⟨rfl,bw⟩
 ·
  obtain ⟨q1,q2,q3⟩:=hbnd rfl
  obtain ⟨p,v,hi,lo,v',hi',lo',sp,dp⟩:=t
  dsimp only at *
  obtain ⟨a1,a2⟩:=Fw q1
  obtain ⟨a3,a4⟩:=Fw q2
  obtain ⟨a5,a6⟩:=Fw q3
  obtain ⟨p,rfl⟩:=Int.eq_ofNat_of_zero_le a1
  obtain ⟨sp,rfl⟩:=Int.eq_ofNat_of_zero_le a3
  obtain ⟨dp,rfl⟩:=Int.eq_ofNat_of_zero_le a5
  clear q1 q2 q3 ho hbnd
  unfold Tup.val at R
  dsimp only at R ⊢
  simp only [Int.toNat_natCast,if_true]
  have P1:=fun W=>CS _ _ 1 1 W (by omega) (Fq p (by omega)) rfl (by omega)
  have P2:=fun W=>CS _ _ 2 2 W (by omega) (Fq sp (by omega)) rfl (by omega)
  have P3:=fun W=>CS _ _ 2 2 W (by omega) (Fq dp (by omega)) rfl (by omega)
  have Q1:=fun W=>H8 v hi lo W x1 x2
  have Q2:=fun W=>H8 v' hi' lo' W x3 x4
  obtain ⟨s2,e2⟩:∃ s,CY v hi lo=s:=⟨_,rfl⟩
  obtain ⟨s3,e3⟩:∃ s,CY v' hi' lo'=s:=⟨_,rfl⟩
  obtain ⟨s1,e1⟩:∃ s,octB p 1=s:=⟨_,rfl⟩
  obtain ⟨s4,e4⟩:∃ s,octB sp 2=s:=⟨_,rfl⟩
  obtain ⟨s5,e5⟩:∃ s,octB dp 2=s:=⟨_,rfl⟩
  have l1:s1.length=1:=by rw [← e1,BF]
  have l2:s2.length≤16:=by rw [← e2];exact CD _ _ _
  have l3:s3.length≤16:=by rw [← e3];exact CD _ _ _
  have l4:s4.length=2:=by rw [← e4,BF]
  have l5:s5.length=2:=by rw [← e5,BF]
  rw [e1] at P1
  rw [e4] at P2
  rw [e5] at P3
  rw [e2] at Q1
  rw [e3] at Q2
  rw [e2,e3]
  clear e2 e3
  replace P1:=Lib.hid P1
  replace P2:=Lib.hid P2
  replace P3:=Lib.hid P3
  replace Q1:=Lib.hid Q1
  replace Q2:=Lib.hid Q2
  cases v
  ·
   have P0:=fun W=>CS 4 4 1 1 W (by omega) rfl rfl (by omega)
   obtain ⟨s0,e0⟩:∃ s,octB 4 1=s:=⟨_,rfl⟩
   have l0:s0.length=1:=by rw [← e0,BF]
   rw [e0] at P0
   replace P0:=Lib.hid P0
   have hfin:octB (kindN false * 256+p) 2 ++ s2 ++ s3 ++ octB (sp * 65536+dp) 4=s0 ++ s1 ++ s2 ++ s3 ++ s4 ++ s5:=by
    rw [Oz _ _ (by omega),OA _ _ (by omega),show kindN false=4 from rfl,e0,e1,e4,e5];simp
   have hl1:¬ 9223372036854775807<s0.length+s1.length:=by omega
   have hl2:¬ 9223372036854775807<s0.length+s1.length+s2.length:=by omega
   have hl3:¬ 9223372036854775807<s0.length+s1.length+s2.length+s3.length:=by omega
   have hl4:¬ 9223372036854775807<s0.length+s1.length+s2.length+s3.length+s4.length:=by omega
   have hl5:¬ 9223372036854775807<s0.length+s1.length+s2.length+s3.length+s4.length+s5.length:=by omega
   replace l1:=Lib.hid l1
   replace l4:=Lib.hid l4
   replace l5:=Lib.hid l5
   replace l0:=Lib.hid l0
   clear e0 e1 e4 e5
   rw [hfin]
   clear hfin
   have hB0:=Blk.new w 47 #[.int .i64 p,.bool false,.int .u64 hi,.int .u64 lo,.bool v',.int .u64 hi',.int .u64 lo',.int .i64 sp,.int .i64 dp]
   have hb0:Below w.heap.size w (w.alloc (.cells #[.int .i64 p,.bool false,.int .u64 hi,.int .u64 lo,.bool v',.int .u64 hi',.int .u64 lo',.int .i64 sp,.int .i64 dp] 47)):=bw
   go_enter Tryz.func220,Tryz.ntmps220
   go_wp2_with (go_at_call 151;refine (R.out _).mono ?_;rintro e w1 ⟨rfl,hb1⟩;have hB:=hB0.below hb1 hB0.lt;have c1:=hB.cell 1;simp at c1)
   have c0:=hB.cell 0
   have c2:=hB.cell 2
   have c3:=hB.cell 3
   have c4:=hB.cell 4
   have c5:=hB.cell 5
   have c6:=hB.cell 6
   have c7:=hB.cell 7
   have c8:=hB.cell 8
   simp at c0 c2 c3 c4 c5 c6 c7 c8
   have hbA:=A8 hb1 hb0
   clear hb1 hB0 hb0 hB R
   go_region_held3 (fun w'=>Below w1.heap.size w1 w'∧w'.cell? ⟨w.heap.size,0,none⟩=some (.int .i64 p)∧w'.cell? ⟨w.heap.size,1,none⟩=some (.bool false)∧w'.cell? ⟨w.heap.size,2,none⟩=some (.int .u64 hi)∧w'.cell? ⟨w.heap.size,3,none⟩=some (.int .u64 lo)∧w'.cell? ⟨w.heap.size,4,none⟩=some (.bool v')∧w'.cell? ⟨w.heap.size,5,none⟩=some (.int .u64 hi')∧w'.cell? ⟨w.heap.size,6,none⟩=some (.int .u64 lo')∧w'.cell? ⟨w.heap.size,7,none⟩=some (.int .i64 sp)∧w'.cell? ⟨w.heap.size,8,none⟩=some (.int .i64 dp)) ((first | assumption | ((refine ⟨?_,?_⟩;(first | assumption | exact (Below.refl _ _).drew | exact Below.refl _ _);go_keep)))) (first
     | (go_at_call 266;with_reducible refine (P0.out _).mono ?_;rintro e w2 ⟨rfl,hb2⟩;have hS:=hold9 (by assumption) hb2)
     | (go_at_call 266;with_reducible refine (P1.out _).mono ?_;rintro e w3 ⟨rfl,hb3⟩;have hS:=hold9 (by assumption) hb3)
     | (go_at_call 266;with_reducible refine (P2.out _).mono ?_;rintro e w6 ⟨rfl,hb6⟩;have hS:=hold9 (by assumption) hb6)
     | (go_at_call 266;with_reducible refine (P3.out _).mono ?_;rintro e w7 ⟨rfl,hb7⟩;have hS:=hold9 (by assumption) hb7)
     | (go_at_call 267;with_reducible refine (Q1.out _).mono ?_;rintro e w4 ⟨rfl,hb4⟩;have hS:=hold9 (by assumption) hb4)
     | (go_at_call 267;with_reducible refine (Q2.out _).mono ?_;rintro e w5 ⟨rfl,hb5⟩;have hS:=hold9 (by assumption) hb5))
   all_goals
    go_wp2_with fail
    go_ret
    refine ⟨?_,A8 (by exact hS.1) hbA⟩
    show Ending.returned (.string _)=Ending.returned (.string _)
    simp only [CA,List.append_assoc]
  ·
   have P0:=fun W=>CS 6 6 1 1 W (by omega) rfl rfl (by omega)
   obtain ⟨s0,e0⟩:∃ s,octB 6 1=s:=⟨_,rfl⟩
   have l0:s0.length=1:=by rw [← e0,BF]
   rw [e0] at P0
   replace P0:=Lib.hid P0
   have hfin:octB (kindN true * 256+p) 2 ++ s2 ++ s3 ++ octB (sp * 65536+dp) 4=s0 ++ s1 ++ s2 ++ s3 ++ s4 ++ s5:=by
    rw [Oz _ _ (by omega),OA _ _ (by omega),show kindN true=6 from rfl,e0,e1,e4,e5];simp
   have hl1:¬ 9223372036854775807<s0.length+s1.length:=by omega
   have hl2:¬ 9223372036854775807<s0.length+s1.length+s2.length:=by omega
   have hl3:¬ 9223372036854775807<s0.length+s1.length+s2.length+s3.length:=by omega
   have hl4:¬ 9223372036854775807<s0.length+s1.length+s2.length+s3.length+s4.length:=by omega
   have hl5:¬ 9223372036854775807<s0.length+s1.length+s2.length+s3.length+s4.length+s5.length:=by omega
   replace l1:=Lib.hid l1
   replace l4:=Lib.hid l4
   replace l5:=Lib.hid l5
   replace l0:=Lib.hid l0
   clear e0 e1 e4 e5
   rw [hfin]
   clear hfin
   have hB0:=Blk.new w 47 #[.int .i64 p,.bool true,.int .u64 hi,.int .u64 lo,.bool v',.int .u64 hi',.int .u64 lo',.int .i64 sp,.int .i64 dp]
   have hb0:Below w.heap.size w (w.alloc (.cells #[.int .i64 p,.bool true,.int .u64 hi,.int .u64 lo,.bool v',.int .u64 hi',.int .u64 lo',.int .i64 sp,.int .i64 dp] 47)):=bw
   go_enter Tryz.func220,Tryz.ntmps220
   go_wp2_with (go_at_call 151;refine (R.out _).mono ?_;rintro e w1 ⟨rfl,hb1⟩;have hB:=hB0.below hb1 hB0.lt;have c1:=hB.cell 1;simp at c1)
   have c0:=hB.cell 0
   have c2:=hB.cell 2
   have c3:=hB.cell 3
   have c4:=hB.cell 4
   have c5:=hB.cell 5
   have c6:=hB.cell 6
   have c7:=hB.cell 7
   have c8:=hB.cell 8
   simp at c0 c2 c3 c4 c5 c6 c7 c8
   have hbA:=A8 hb1 hb0
   clear hb1 hB0 hb0 hB R
   go_region_held3 (fun w'=>Below w1.heap.size w1 w'∧w'.cell? ⟨w.heap.size,0,none⟩=some (.int .i64 p)∧w'.cell? ⟨w.heap.size,1,none⟩=some (.bool true)∧w'.cell? ⟨w.heap.size,2,none⟩=some (.int .u64 hi)∧w'.cell? ⟨w.heap.size,3,none⟩=some (.int .u64 lo)∧w'.cell? ⟨w.heap.size,4,none⟩=some (.bool v')∧w'.cell? ⟨w.heap.size,5,none⟩=some (.int .u64 hi')∧w'.cell? ⟨w.heap.size,6,none⟩=some (.int .u64 lo')∧w'.cell? ⟨w.heap.size,7,none⟩=some (.int .i64 sp)∧w'.cell? ⟨w.heap.size,8,none⟩=some (.int .i64 dp)) ((first | assumption | ((refine ⟨?_,?_⟩;(first | assumption | exact (Below.refl _ _).drew | exact Below.refl _ _);go_keep)))) (first
     | (go_at_call 266;with_reducible refine (P0.out _).mono ?_;rintro e w2 ⟨rfl,hb2⟩;have hS:=hold9 (by assumption) hb2)
     | (go_at_call 266;with_reducible refine (P1.out _).mono ?_;rintro e w3 ⟨rfl,hb3⟩;have hS:=hold9 (by assumption) hb3)
     | (go_at_call 266;with_reducible refine (P2.out _).mono ?_;rintro e w6 ⟨rfl,hb6⟩;have hS:=hold9 (by assumption) hb6)
     | (go_at_call 266;with_reducible refine (P3.out _).mono ?_;rintro e w7 ⟨rfl,hb7⟩;have hS:=hold9 (by assumption) hb7)
     | (go_at_call 267;with_reducible refine (Q1.out _).mono ?_;rintro e w4 ⟨rfl,hb4⟩;have hS:=hold9 (by assumption) hb4)
     | (go_at_call 267;with_reducible refine (Q2.out _).mono ?_;rintro e w5 ⟨rfl,hb5⟩;have hS:=hold9 (by assumption) hb5))
   all_goals
    go_wp2_with fail
    go_ret
    refine ⟨?_,A8 (by exact hS.1) hbA⟩
    show Ending.returned (.string _)=Ending.returned (.string _)
    simp only [CA,List.append_assoc]
end Go.Proofs.YteklkljndchjiaaGreat
