/- cookie: the program's functions and the document's. cookie: Unpack, Mask, Make, Open. -/
import Derived.Test.YteklkljndchjiaaGreatJ21
import Derived.Test.YteklkljndchjiaaGreatJ17
import Derived.Test.YteklkljndchjiaaGreatJ23
import Derived.Deep.Cut
namespace Go.Proofs.YteklkljndchjiaaGreat
open Go Go.RowKit Go.Deep
def hashT (a b:Int) (t:Tup):Int:=C8 a b ⟨(BW t).toArray⟩
theorem PV (a b:Int) (t:Tup):∃ h:Nat,hashT a b t=(h:Int)∧h<18446744073709551616:=Hv a b _
abbrev layV (wd:Bool) (sl gn:Int):Value:=.agg #[.bool wd,.int .i64 sl,.int .i64 gn]
def bitsN (wd:Bool):Int:=if wd then 64 else 16
section
variable (wd:Bool) (sl gn:Int) (w:World)
theorem OL:Calls Tryz.prog 208 #[layV wd sl gn] w fun e w'=>e=.returned (.int .i64 (bitsN wd))∧Below w.heap.size w w':=by
 cases wd
 all_goals
  go_enter Tryz.func208,Tryz.ntmps208
  go_wp2_with fail
  go_ret
  exact ⟨rfl,bw⟩
set_option maxRecDepth 100000 in
set_option maxHeartbeats 2000000 in
theorem ck_may:Calls Tryz.prog 140 #[layV wd sl gn] w fun e w'=>e=.returned (.bool (layOk wd sl gn))∧Below w.heap.size w w':=by
 have BT:=Lib.hid fun W=>OL wd sl gn W
 have BC:=Blk.new w 206 #[.bool wd,.int .i64 sl,.int .i64 gn]
 have hb0:Below w.heap.size w (w.alloc (.cells #[.bool wd,.int .i64 sl,.int .i64 gn] 206)):=Aa (Below.refl _ _) _
 have hlay:layOk wd sl gn=(!(decide (sl<0)) && !(decide (12<sl)) && !(decide (gn<0)) && decide (gn≤(if wd then 63 else 16) - sl)):=by
  unfold layOk
  rw [Bool.eq_iff_iff]
  simp only [decide_eq_true_eq,Bool.and_eq_true,Bool.not_eq_true',decide_eq_false_iff_not]
  omega
 by_cases h0:sl<0
 ·
  have x0:decide (sl<0)=true:=by simpa using h0
  rw [x0] at hlay
  replace hlay:=Lib.hid hlay
  go_enter Tryz.func140,Tryz.ntmps140
  go_wp2_with fail
  go_ret
  exact ⟨by rw [hlay.out];rfl,hb0⟩
 have x0:decide (sl<0)=false:=by simpa using h0
 by_cases h1:12<sl
 ·
  have x1:decide (12<sl)=true:=by simpa using h1
  rw [x0,x1] at hlay
  replace hlay:=Lib.hid hlay
  go_enter Tryz.func140,Tryz.ntmps140
  go_wp2_with fail
  go_ret
  exact ⟨by rw [hlay.out];rfl,hb0⟩
 have x1:decide (12<sl)=false:=by simpa using h1
 by_cases h2:gn<0
 ·
  have x2:decide (gn<0)=true:=by simpa using h2
  rw [x0,x1,x2] at hlay
  replace hlay:=Lib.hid hlay
  go_enter Tryz.func140,Tryz.ntmps140
  go_wp2_with fail
  go_ret
  exact ⟨by rw [hlay.out];rfl,hb0⟩
 have x2:decide (gn<0)=false:=by simpa using h2
 rw [x0,x1,x2] at hlay
 have hw1:IntKind.i64.wrap (63 - sl)=63 - sl:=by simp [IntKind.wrap,IntKind.bits,IntKind.signed];omega
 have hw2:IntKind.i64.wrap (16 - sl)=16 - sl:=by simp [IntKind.wrap,IntKind.bits,IntKind.signed];omega
 cases wd
 ·
  have hfin:decide (gn≤IntKind.i64.wrap (min (bitsN false) 63 - sl))=layOk false sl gn:=by
   rw [hlay,show min (bitsN false) (63:Int)=16 from by decide,hw2]
   rfl
  replace hfin:=Lib.hid hfin
  clear hlay
  go_enter Tryz.func140,Tryz.ntmps140
  go_upto_region 1 with fail
  generalize w.alloc (.cells #[.bool false,.int .i64 sl,.int .i64 gn] 206)=w1 at *
  obtain ⟨r,hr⟩:∃ r,w.heap.size=r:=⟨_,rfl⟩
  rw [hr] at BC
  try rw [hr]
  have c0:=BC.cell 0
  have c1:=BC.cell 1
  have c2:=BC.cell 2
  simp at c0 c1 c2
  go_upto_region 3 with fail
  go_region_held3 (fun W=>Below w1.heap.size w1 W∧W.cell? ⟨r,0,none⟩=some (.bool false)∧W.cell? ⟨r,1,none⟩=some (.int .i64 sl)∧W.cell? ⟨r,2,none⟩=some (.int .i64 gn)) (first | ((first | assumption | ((refine ⟨?_,?_⟩;(first | assumption | exact (Below.refl _ _).drew | exact Below.refl _ _);go_keep))))) (first | (go_at_call 208;(with_reducible refine (BT.out _).mono ?_);rintro e w2 ⟨rfl,hb2⟩;have hS:=hold3 (by assumption) hb2))
  go_wp2_with fail
  go_ret
  exact ⟨congrArg (fun b=>Ending.returned (Value.bool b)) hfin.out,A8 hb2 (A8 (Below.refl _ _).drew hb0)⟩
 ·
  have hfin:decide (gn≤IntKind.i64.wrap (min (bitsN true) 63 - sl))=layOk true sl gn:=by
   rw [hlay,show min (bitsN true) (63:Int)=63 from by decide,hw1]
   rfl
  replace hfin:=Lib.hid hfin
  clear hlay
  go_enter Tryz.func140,Tryz.ntmps140
  go_upto_region 1 with fail
  generalize w.alloc (.cells #[.bool true,.int .i64 sl,.int .i64 gn] 206)=w1 at *
  obtain ⟨r,hr⟩:∃ r,w.heap.size=r:=⟨_,rfl⟩
  rw [hr] at BC
  try rw [hr]
  have c0:=BC.cell 0
  have c1:=BC.cell 1
  have c2:=BC.cell 2
  simp at c0 c1 c2
  go_upto_region 3 with fail
  go_region_held3 (fun W=>Below w1.heap.size w1 W∧W.cell? ⟨r,0,none⟩=some (.bool true)∧W.cell? ⟨r,1,none⟩=some (.int .i64 sl)∧W.cell? ⟨r,2,none⟩=some (.int .i64 gn)) (first | ((first | assumption | ((refine ⟨?_,?_⟩;(first | assumption | exact (Below.refl _ _).drew | exact Below.refl _ _);go_keep))))) (first | (go_at_call 208;(with_reducible refine (BT.out _).mono ?_);rintro e w2 ⟨rfl,hb2⟩;have hS:=hold3 (by assumption) hb2))
  go_wp2_with fail
  go_ret
  exact ⟨congrArg (fun b=>Ending.returned (Value.bool b)) hfin.out,A8 hb2 (A8 (Below.refl _ _).drew hb0)⟩
theorem Gk:Calls Tryz.prog 76 #[layV wd sl gn] w fun e w'=>e=.returned (.bool (layOk wd sl gn))∧Below w.heap.size w w':=by
 have MY:=Lib.hid fun W=>ck_may wd sl gn W
 go_enter Tryz.func76,Tryz.ntmps76
 go_wp2_with (go_at_call 140;(with_reducible refine (MY.out _).mono ?_);rintro e w2 ⟨rfl,hb2⟩)
 go_ret
 exact ⟨rfl,bw⟩
theorem LR:Calls Tryz.prog 158 #[layV wd sl gn] w fun e w'=>e=.returned (.int .i64 (layW wd sl gn))∧Below w.heap.size w w':=by
 have RT:=Lib.hid fun W=>Gk wd sl gn W
 have BT:=Lib.hid fun W=>OL wd sl gn W
 have BC:=Blk.new w 23 #[.bool wd,.int .i64 sl,.int .i64 gn]
 have hb0:Below w.heap.size w (w.alloc (.cells #[.bool wd,.int .i64 sl,.int .i64 gn] 23)):=Aa (Below.refl _ _) _
 have hW:layW wd sl gn=if layOk wd sl gn then bitsN wd else 0:=rfl
 obtain ⟨o,ho⟩:∃ o,layOk wd sl gn=o:=⟨_,rfl⟩
 rw [ho] at RT hW
 replace hW:=Lib.hid hW
 clear ho
 go_enter Tryz.func158,Tryz.ntmps158
 go_upto_region 1 with fail
 generalize w.alloc (.cells #[.bool wd,.int .i64 sl,.int .i64 gn] 23)=w1 at *
 obtain ⟨r,hr⟩:∃ r,w.heap.size=r:=⟨_,rfl⟩
 rw [hr] at BC
 try rw [hr]
 have CC:=Lib.hid fun W (h:Below w1.heap.size w1 W)=>show W.cell? ⟨r,0,none⟩=some (.bool wd)∧W.cell? ⟨r,1,none⟩=some (.int .i64 sl)∧W.cell? ⟨r,2,none⟩=some (.int .i64 gn) from ⟨(BC.call h).cell 0,(BC.call h).cell 1,(BC.call h).cell 2⟩
 clear BC
 obtain ⟨c0,c1,c2⟩:=CC.out w1 (Below.refl _ _)
 cases o
 all_goals
  go_wp2_with (first
   | (go_at_call 76;(with_reducible refine (RT.out _).mono ?_);rintro e w2 ⟨rfl,hb2⟩;clear c0 c1 c2;obtain ⟨c0,c1,c2⟩:=CC.out w2 hb2)
   | (go_at_call 208;(with_reducible refine (BT.out _).mono ?_);rintro e w3 ⟨rfl,hb3⟩))
  go_ret
  exact ⟨by rw [hW.out];rfl,bw⟩
end
def Bb (wd:Bool) (sl gn slot:Int):Bool:=layOk wd sl gn && decide (0≤slot∧slot<2 ^ sl.toNat)
def packI (wd:Bool) (sl gn slot gen:Int):Int:=if Bb wd sl gn slot then ((packV sl.toNat gn.toNat slot.toNat gen.toNat:Nat):Int) else 0
theorem Nm {wd:Bool} {sl gn slot:Int} (h:Bb wd sl gn slot=true):∃ a b c:Nat,sl=a∧gn=b∧slot=c∧a≤12∧a+b≤(if wd then 63 else 16)∧c<2 ^ a:=by
 unfold Bb at h
 rw [Bool.and_eq_true,decide_eq_true_eq] at h
 obtain ⟨a,b,rfl,rfl,h1,h2⟩:=C9 h.1
 refine ⟨a,b,slot.toNat,rfl,rfl,by omega,h1,h2,?_⟩
 have h3:=h.2.2
 rw [Int.toNat_natCast] at h3
 have:((slot.toNat:Nat):Int)<((2 ^ a:Nat):Int):=by
  rw [Int.toNat_of_nonneg h.2.1]
  simpa using h3
 exact_mod_cast this
theorem Gl {wd:Bool} {a b c g:Nat} (h:Bb wd a b c=true):packI wd a b c g=((packV a b c g:Nat):Int):=by
 unfold packI
 rw [if_pos h]
 rfl
theorem LU (a c:Nat):((c:Int) / 2 ^ a != 0)=!decide (c<2 ^ a):=by
 have h0:0<2 ^ a:=Nat.pow_pos (by omega)
 have e:(c:Int) / 2 ^ a=((c / 2 ^ a:Nat):Int):=by simp
 rw [e]
 by_cases h:c<2 ^ a
 ·
  rw [Nat.div_eq_of_lt h]
  simp [h]
 ·
  have h1:1≤c / 2 ^ a:=(Nat.le_div_iff_mul_le h0).2 (by omega)
  have h2:((c / 2 ^ a:Nat):Int)≠0:=by omega
  simp only [ne_eq,h2,not_false_eq_true,h,decide_false,Bool.not_false,bne,beq_eq_false_iff_ne,Bool.not_eq_true']
set_option maxRecDepth 100000 in
set_option maxHeartbeats 4000000 in
theorem Sr (wd:Bool) (sl gn slot:Int) (g:Nat) (hg:g<18446744073709551616) (w:World):Calls Tryz.prog 177 #[layV wd sl gn,.int .i64 slot,.int .u64 (g:Int)] w fun e w'=>e=.returned (.tuple #[.int .u64 (packI wd sl gn slot g),.bool (Bb wd sl gn slot)])∧Below w.heap.size w w':=by
 have RT:=Lib.hid fun W=>Gk wd sl gn W
 have BC:=Blk.new w 23 #[.bool wd,.int .i64 sl,.int .i64 gn]
 have hb0:Below w.heap.size w (w.alloc (.cells #[.bool wd,.int .i64 sl,.int .i64 gn] 23)):=Aa (Below.refl _ _) _
 obtain ⟨o,ho⟩:∃ o,layOk wd sl gn=o:=⟨_,rfl⟩
 cases o
 ·
  have hP:Bb wd sl gn slot=false:=by unfold Bb;rw [ho];rfl
  have hI:packI wd sl gn slot g=0:=by unfold packI;rw [hP];rfl
  rw [ho] at RT
  rw [hP,hI]
  clear hP hI ho
  go_enter Tryz.func177,Tryz.ntmps177
  go_upto_region 1 with fail
  generalize w.alloc (.cells #[.bool wd,.int .i64 sl,.int .i64 gn] 23)=w1 at *
  obtain ⟨r,hr⟩:∃ r,w.heap.size=r:=⟨_,rfl⟩
  rw [hr] at BC
  try rw [hr]
  have c0:=BC.cell 0
  have c1:=BC.cell 1
  have c2:=BC.cell 2
  simp at c0 c1 c2
  go_wp2_with (go_at_call 76;(with_reducible refine (RT.out _).mono ?_);rintro e w2 ⟨rfl,hb2⟩)
  go_ret2
  exact ⟨rfl,bw⟩
 ·
  obtain ⟨a,b,rfl,rfl,ha,hab⟩:=C9 ho
  have hab2:a+b≤63:=Nat.le_trans hab (by split <;> omega)
  have hPq:Bb wd a b slot=decide (0≤slot∧slot<2 ^ a):=by unfold Bb;rw [ho,Int.toNat_natCast];rfl
  rw [ho] at RT
  have ha0:(0:Int)≤(a:Int):=by omega
  by_cases hs0:slot<0
  ·
   have hP:Bb wd a b slot=false:=by rw [hPq];simp;omega
   have hI:packI wd a b slot g=0:=by unfold packI;rw [hP];rfl
   have x0:decide (slot<0)=true:=by simpa using hs0
   rw [hP,hI]
   clear hP hI ho hPq
   go_enter Tryz.func177,Tryz.ntmps177
   go_upto_region 1 with fail
   generalize w.alloc (.cells #[.bool wd,.int .i64 (a:Int),.int .i64 (b:Int)] 23)=w1 at *
   obtain ⟨r,hr⟩:∃ r,w.heap.size=r:=⟨_,rfl⟩
   rw [hr] at BC
   try rw [hr]
   have c0:=BC.cell 0
   have c1:=BC.cell 1
   have c2:=BC.cell 2
   simp at c0 c1 c2
   go_wp2_with (go_at_call 76;(with_reducible refine (RT.out _).mono ?_);rintro e w2 ⟨rfl,hb2⟩)
   go_ret2
   exact ⟨rfl,bw⟩
  ·
   obtain ⟨c,rfl⟩:∃ c:Nat,slot=c:=⟨slot.toNat,by omega⟩
   have x0:decide ((c:Int)<0)=false:=by simp
   have hsh:=LU a c
   by_cases hc:c<2 ^ a
   ·
    have hP:Bb wd a b c=true:=by
     rw [hPq,decide_eq_true_eq]
     refine ⟨by omega,?_⟩
     have:((c:Nat):Int)<((2 ^ a:Nat):Int):=by exact_mod_cast hc
     simpa using this
    have hI:=Gl (g:=g) hP
    have hpc:=PH a b c g hab2 hc hg
    rw [show decide (c<2 ^ a)=true from decide_eq_true hc] at hsh
    have MK:=Lib.hid fun W=>(EH (b:Int) W).mono fun _ _ h=>And.intro h.1 h.2.symm
    have hcw:IntKind.u64.wrap (c:Int)=(c:Int):=wrapN c (by have:=pow63 a (by omega);omega)
    rw [hP,hI]
    replace hpc:=Lib.hid hpc
    clear hP hI ho hPq
    go_enter Tryz.func177,Tryz.ntmps177
    go_upto_region 1 with fail
    generalize w.alloc (.cells #[.bool wd,.int .i64 (a:Int),.int .i64 (b:Int)] 23)=w1 at *
    obtain ⟨r,hr⟩:∃ r,w.heap.size=r:=⟨_,rfl⟩
    rw [hr] at BC
    try rw [hr]
    have CC:=Lib.hid fun W (h:Below w1.heap.size w1 W)=>show W.cell? ⟨r,0,none⟩=some (.bool wd)∧W.cell? ⟨r,1,none⟩=some (.int .i64 (a:Int))∧W.cell? ⟨r,2,none⟩=some (.int .i64 (b:Int)) from ⟨(BC.call h).cell 0,(BC.call h).cell 1,(BC.call h).cell 2⟩
    clear BC
    obtain ⟨c0,c1,c2⟩:=CC.out w1 (Below.refl _ _)
    go_upto_region 3 with (go_at_call 76;(with_reducible refine (RT.out _).mono ?_);rintro e w2 ⟨rfl,hb2⟩;clear c0 c1 c2;obtain ⟨c0,c1,c2⟩:=CC.out w2 hb2)
    go_quiet (first | (go_at_call 157;with_reducible exact Calls.quiet_of_same (MK.out _)))
    go_wp2_with fail
    go_ret2
    exact ⟨congrArg (fun x=>Ending.returned (Value.tuple #[.int .u64 x,.bool true])) hpc.out,bw⟩
   ·
    have hP:Bb wd a b c=false:=by
     rw [hPq,decide_eq_false_iff_not]
     rintro ⟨-,h⟩
     have:((c:Nat):Int)<((2 ^ a:Nat):Int):=by simpa using h
     omega
    have hI:packI wd a b c g=0:=by unfold packI;rw [hP];rfl
    rw [show decide (c<2 ^ a)=false from decide_eq_false hc] at hsh
    rw [hP,hI]
    clear hP hI ho hPq
    go_enter Tryz.func177,Tryz.ntmps177
    go_upto_region 1 with fail
    generalize w.alloc (.cells #[.bool wd,.int .i64 (a:Int),.int .i64 (b:Int)] 23)=w1 at *
    obtain ⟨r,hr⟩:∃ r,w.heap.size=r:=⟨_,rfl⟩
    rw [hr] at BC
    try rw [hr]
    have CC:=Lib.hid fun W (h:Below w1.heap.size w1 W)=>show W.cell? ⟨r,0,none⟩=some (.bool wd)∧W.cell? ⟨r,1,none⟩=some (.int .i64 (a:Int))∧W.cell? ⟨r,2,none⟩=some (.int .i64 (b:Int)) from ⟨(BC.call h).cell 0,(BC.call h).cell 1,(BC.call h).cell 2⟩
    clear BC
    obtain ⟨c0,c1,c2⟩:=CC.out w1 (Below.refl _ _)
    go_wp2_with (go_at_call 76;(with_reducible refine (RT.out _).mono ?_);rintro e w2 ⟨rfl,hb2⟩;clear c0 c1 c2;obtain ⟨c0,c1,c2⟩:=CC.out w2 hb2)
    go_ret2
    exact ⟨rfl,bw⟩
def unpOk (wd:Bool) (sl gn:Int) (p:Nat):Bool:=layOk wd sl gn && decide (p<2 ^ (sl.toNat+gn.toNat))
def unpS (wd:Bool) (sl gn:Int) (p:Nat):Int:=if unpOk wd sl gn p then ((p % 2 ^ sl.toNat:Nat):Int) else 0
def unpG (wd:Bool) (sl gn:Int) (p:Nat):Int:=if unpOk wd sl gn p then ((p / 2 ^ sl.toNat:Nat):Int) else 0
theorem Kl {wd:Bool} {sl gn:Int} {p:Nat} (h:unpOk wd sl gn p=false):unpS wd sl gn p=0∧unpG wd sl gn p=0:=by
 unfold unpS unpG
 rw [h]
 exact ⟨rfl,rfl⟩
theorem Km {wd:Bool} {a b p:Nat} (h:unpOk wd a b p=true):unpS wd a b p=((p % 2 ^ a:Nat):Int)∧unpG wd a b p=((p / 2 ^ a:Nat):Int):=by
 unfold unpS unpG
 rw [h]
 exact ⟨rfl,rfl⟩
theorem wrapI (x:Nat) (h:x<9223372036854775808):IntKind.i64.wrap (x:Int)=(x:Int):=by
 simp [IntKind.wrap,IntKind.bits,IntKind.signed]
 omega
set_option maxRecDepth 100000 in
set_option maxHeartbeats 4000000 in
theorem PW (wd:Bool) (sl gn:Int) (p:Nat) (hp:p<18446744073709551616) (w:World):Calls Tryz.prog 159 #[layV wd sl gn,.int .u64 (p:Int)] w fun e w'=>e=.returned (.tuple #[.int .i64 (unpS wd sl gn p),.int .u64 (unpG wd sl gn p),.bool (unpOk wd sl gn p)])∧Below w.heap.size w w':=by
 have RT:=Lib.hid fun W=>Gk wd sl gn W
 have BC:=Blk.new w 23 #[.bool wd,.int .i64 sl,.int .i64 gn]
 have hb0:Below w.heap.size w (w.alloc (.cells #[.bool wd,.int .i64 sl,.int .i64 gn] 23)):=Aa (Below.refl _ _) _
 obtain ⟨o,ho⟩:∃ o,layOk wd sl gn=o:=⟨_,rfl⟩
 cases o
 ·
  have hP:unpOk wd sl gn p=false:=by unfold unpOk;rw [ho];rfl
  obtain ⟨e1,e2⟩:=Kl hP
  rw [ho] at RT
  rw [hP,e1,e2]
  clear hP e1 e2 ho
  go_enter Tryz.func159,Tryz.ntmps159
  go_upto_region 1 with fail
  generalize w.alloc (.cells #[.bool wd,.int .i64 sl,.int .i64 gn] 23)=w1 at *
  obtain ⟨r,hr⟩:∃ r,w.heap.size=r:=⟨_,rfl⟩
  rw [hr] at BC
  try rw [hr]
  have c0:=BC.cell 0
  have c1:=BC.cell 1
  have c2:=BC.cell 2
  simp at c0 c1 c2
  go_wp2_with (go_at_call 76;(with_reducible refine (RT.out _).mono ?_);rintro e w2 ⟨rfl,hb2⟩)
  refine bodyPost_ret (v:=.tuple #[.int .i64 0,.int .u64 0,.bool false]) (by simp [results,Tryz.results159,go_sem, *]) rfl ?_
  exact ⟨rfl,bw⟩
 ·
  obtain ⟨a,b,rfl,rfl,ha,hab⟩:=C9 ho
  have hab2:a+b≤63:=Nat.le_trans hab (by split <;> omega)
  have hPq:unpOk wd a b p=decide (p<2 ^ (a+b)):=by unfold unpOk;rw [ho,Int.toNat_natCast,Int.toNat_natCast];rfl
  rw [ho] at RT
  have ha0:(0:Int)≤(a:Int):=by omega
  have hsum:IntKind.i64.wrap ((a:Int)+(b:Int))=((a+b:Nat):Int):=by rw [← Int.natCast_add];exact wrapI _ (by omega)
  have hab0:(0:Int)≤((a+b:Nat):Int):=by omega
  have hsh:=LU (a+b) p
  by_cases hc:p<2 ^ (a+b)
  ·
   have hP:unpOk wd a b p=true:=by rw [hPq];exact decide_eq_true hc
   obtain ⟨e1,e2⟩:=Km hP
   rw [show decide (p<2 ^ (a+b))=true from decide_eq_true hc] at hsh
   have MK:=Lib.hid fun W=>(EH (a:Int) W).mono fun _ _ h=>And.intro h.1 h.2.symm
   have hlow:=E6 p a hp (by omega)
   have hmod:p % 2 ^ a<2 ^ a:=Nat.mod_lt _ (Nat.pow_pos (by omega))
   have hlw:wrap64 (bits BinOp.and IntKind.u64 (p:Int) (maskI (a:Int)))=((p % 2 ^ a:Nat):Int):=by
    have h63:=pow63 a (by omega)
    rw [hlow]
    unfold wrap64
    omega
   have hdv:(p:Int) / 2 ^ a=((p / 2 ^ a:Nat):Int):=by simp
   rw [hP,e1,e2]
   replace hlw:=Lib.hid hlw
   replace hdv:=Lib.hid hdv
   clear hP e1 e2 ho hPq hlow
   go_enter Tryz.func159,Tryz.ntmps159
   go_upto_region 1 with fail
   generalize w.alloc (.cells #[.bool wd,.int .i64 (a:Int),.int .i64 (b:Int)] 23)=w1 at *
   obtain ⟨r,hr⟩:∃ r,w.heap.size=r:=⟨_,rfl⟩
   rw [hr] at BC
   try rw [hr]
   have CC:=Lib.hid fun W (h:Below w1.heap.size w1 W)=>show W.cell? ⟨r,0,none⟩=some (.bool wd)∧W.cell? ⟨r,1,none⟩=some (.int .i64 (a:Int))∧W.cell? ⟨r,2,none⟩=some (.int .i64 (b:Int)) from ⟨(BC.call h).cell 0,(BC.call h).cell 1,(BC.call h).cell 2⟩
   clear BC
   obtain ⟨c0,c1,c2⟩:=CC.out w1 (Below.refl _ _)
   go_upto_region 3 with (go_at_call 76;(with_reducible refine (RT.out _).mono ?_);rintro e w2 ⟨rfl,hb2⟩;clear c0 c1 c2;obtain ⟨c0,c1,c2⟩:=CC.out w2 hb2)
   go_quiet (first | (go_at_call 157;with_reducible exact Calls.quiet_of_same (MK.out _)))
   go_wp2_with fail
   refine bodyPost_ret (v:=.tuple #[.int .i64 (wrap64 (bits BinOp.and IntKind.u64 (p:Int) (maskI (a:Int)))),.int .u64 ((p:Int) / 2 ^ a),.bool true]) (by simp [results,Tryz.results159,go_sem, *]) rfl ?_
   exact ⟨by rw [hlw.out,hdv.out],bw⟩
  ·
   have hP:unpOk wd a b p=false:=by rw [hPq];exact decide_eq_false hc
   obtain ⟨e1,e2⟩:=Kl hP
   rw [show decide (p<2 ^ (a+b))=false from decide_eq_false hc] at hsh
   rw [hP,e1,e2]
   clear hP e1 e2 ho hPq
   go_enter Tryz.func159,Tryz.ntmps159
   go_upto_region 1 with fail
   generalize w.alloc (.cells #[.bool wd,.int .i64 (a:Int),.int .i64 (b:Int)] 23)=w1 at *
   obtain ⟨r,hr⟩:∃ r,w.heap.size=r:=⟨_,rfl⟩
   rw [hr] at BC
   try rw [hr]
   have CC:=Lib.hid fun W (h:Below w1.heap.size w1 W)=>show W.cell? ⟨r,0,none⟩=some (.bool wd)∧W.cell? ⟨r,1,none⟩=some (.int .i64 (a:Int))∧W.cell? ⟨r,2,none⟩=some (.int .i64 (b:Int)) from ⟨(BC.call h).cell 0,(BC.call h).cell 1,(BC.call h).cell 2⟩
   clear BC
   obtain ⟨c0,c1,c2⟩:=CC.out w1 (Below.refl _ _)
   go_wp2_with (go_at_call 76;(with_reducible refine (RT.out _).mono ?_);rintro e w2 ⟨rfl,hb2⟩;clear c0 c1 c2;obtain ⟨c0,c1,c2⟩:=CC.out w2 hb2)
   refine bodyPost_ret (v:=.tuple #[.int .i64 0,.int .u64 0,.bool false]) (by simp [results,Tryz.results159,go_sem, *]) rfl ?_
   exact ⟨rfl,bw⟩
def cookM (wd:Bool) (sl gn a b:Int) (t:Tup) (n:Int):Int:=bits BinOp.and IntKind.u64 (bits BinOp.xor IntKind.u64 n (hashT a b t)) (maskI (layW wd sl gn))
theorem LW (wd:Bool) (sl gn:Int):∃ W:Nat,layW wd sl gn=W∧W≤64:=by
 unfold layW
 split
 ·
  split
  · exact ⟨64,rfl,by omega⟩
  · exact ⟨16,rfl,by omega⟩
 · exact ⟨0,rfl,by omega⟩
theorem E7 (wd:Bool) (sl gn a b:Int) (t:Tup) (n:Nat) (hn:n<18446744073709551616):∃ h W:Nat,hashT a b t=h∧layW wd sl gn=W∧W≤64∧cookM wd sl gn a b t n=((hideV W h n:Nat):Int):=by
 obtain ⟨h,hh,hl⟩:=PV a b t
 obtain ⟨W,hW,hW2⟩:=LW wd sl gn
 refine ⟨h,W,hh,hW,hW2,?_⟩
 unfold cookM
 rw [hh,hW,PI W h n hW2 hl hn]
set_option maxRecDepth 100000 in
set_option maxHeartbeats 4000000 in
theorem OM (wd:Bool) (sl gn a b:Int) (t:Tup) (n:Int) (w:World):Calls Tryz.prog 160 #[layV wd sl gn,.agg #[.int .u64 a,.int .u64 b],t.val,.int .u64 n] w fun e w'=>e=.returned (.int .u64 (cookM wd sl gn a b t n))∧Below w.heap.size w w':=by
 have WD:=Lib.hid fun W=>LR wd sl gn W
 obtain ⟨x,hx⟩:∃ x,(⟨(BW t).toArray⟩:ByteArray)=x:=⟨_,rfl⟩
 have hxl:x.size≤1000000:=by rw [← hx];have:=Ep t;show (BW t).toArray.size≤_;simp;omega
 have TP:=Lib.hid fun W=>JB t W
 have hC:cookM wd sl gn a b t n=bits BinOp.and IntKind.u64 (bits BinOp.xor IntKind.u64 n (C8 a b x)) (maskI (layW wd sl gn)):=by
  unfold cookM hashT
  rw [hx]
 rw [hC]
 rw [hx] at TP
 clear hC hx
 obtain ⟨R,hR⟩:∃ R,hrun x (sip0 a b) x.size=R:=⟨_,rfl⟩
 have hS:C8 a b x=Fy (stake R.1 (EW R.2 x.size)):=by unfold C8;rw [hR]
 obtain ⟨S,L⟩:=R
 rw [hS]
 replace hR:=Lib.hid hR
 clear hS
 have BL:=((Blk.new w 23 #[.bool wd,.int .i64 sl,.int .i64 gn]).alloc (.cells #[.int .u64 a,.int .u64 b] 26)).alloc (.cells t.cells.toArray 47)
 have BK:=(Blk.new (w.alloc (.cells #[.bool wd,.int .i64 sl,.int .i64 gn] 23)) 26 #[.int .u64 a,.int .u64 b]).alloc (.cells t.cells.toArray 47)
 have BT:=Blk.new ((w.alloc (.cells #[.bool wd,.int .i64 sl,.int .i64 gn] 23)).alloc (.cells #[.int .u64 a,.int .u64 b] 26)) 47 t.cells.toArray
 have hb0:Below w.heap.size w (((w.alloc (.cells #[.bool wd,.int .i64 sl,.int .i64 gn] 23)).alloc (.cells #[.int .u64 a,.int .u64 b] 26)).alloc (.cells t.cells.toArray 47)):=bw
 obtain ⟨p,v,hi,lo,v',hi',lo',sp,dp⟩:=t
 go_enter Tryz.func160,Tryz.ntmps160
 go_upto_region 1 with fail
 change Code.wp _ _ _ _ (((w.alloc (.cells #[.bool wd,.int .i64 sl,.int .i64 gn] 23)).alloc (.cells #[.int .u64 a,.int .u64 b] 26)).alloc (.cells (Tup.cells ⟨p,v,hi,lo,v',hi',lo',sp,dp⟩).toArray 47))
 simp only [World.size_alloc] at BK BT
 generalize ((w.alloc (.cells #[.bool wd,.int .i64 sl,.int .i64 gn] 23)).alloc (.cells #[.int .u64 a,.int .u64 b] 26)).alloc (.cells (Tup.cells ⟨p,v,hi,lo,v',hi',lo',sp,dp⟩).toArray 47)=w1 at *
 obtain ⟨r,hr⟩:∃ r,w.heap.size=r:=⟨_,rfl⟩
 rw [hr] at BL BK BT
 try rw [hr]
 have hg0:r+2<w1.heap.size:=BT.lt
 have CC:=Lib.hid fun W (h:Below w1.heap.size w1 W)=>show W.cell? ⟨r,0,none⟩=some (.bool wd)∧W.cell? ⟨r,1,none⟩=some (.int .i64 sl)∧W.cell? ⟨r,2,none⟩=some (.int .i64 gn) from ⟨(BL.call h).cell 0,(BL.call h).cell 1,(BL.call h).cell 2⟩
 have k0:w1.cell? ⟨r+1,0,none⟩=some (.int .u64 a):=BK.cell 0
 have k1:w1.cell? ⟨r+1,1,none⟩=some (.int .u64 b):=BK.cell 1
 have BTH:=Lib.hid BT
 clear BL BK BT
 go_upto_region 2 with (go_at_call 224;(with_reducible refine (OD a b _).mono ?_);rintro e w2 ⟨g,rfl,hrow,hb2,hg2⟩;clear k0 k1)
 have BT2:=BTH.out.call hb2
 have t0:w2.cell? ⟨r+1+1,0,none⟩=some (.int .i64 p):=BT2.cell 0
 have t1:w2.cell? ⟨r+1+1,1,none⟩=some (.bool v):=BT2.cell 1
 have t2:w2.cell? ⟨r+1+1,2,none⟩=some (.int .u64 hi):=BT2.cell 2
 have t3:w2.cell? ⟨r+1+1,3,none⟩=some (.int .u64 lo):=BT2.cell 3
 have t4:w2.cell? ⟨r+1+1,4,none⟩=some (.bool v'):=BT2.cell 4
 have t5:w2.cell? ⟨r+1+1,5,none⟩=some (.int .u64 hi'):=BT2.cell 5
 have t6:w2.cell? ⟨r+1+1,6,none⟩=some (.int .u64 lo'):=BT2.cell 6
 have t7:w2.cell? ⟨r+1+1,7,none⟩=some (.int .i64 sp):=BT2.cell 7
 have t8:w2.cell? ⟨r+1+1,8,none⟩=some (.int .i64 dp):=BT2.cell 8
 clear BT2
 replace hrow:=Lib.hid hrow
 go_upto_region 3 with (first
  | (go_at_call 212;(with_reducible refine (TP.out _).mono ?_);rintro e w3 ⟨rfl,hb3⟩;have hrow3:=Dt hrow.out hb3;clear t0 t1 t2 t3 t4 t5 t6 t7 t8)
  | (go_at_call 225;(with_reducible refine (JD g (sip0 a b) x w3 hrow3 hxl).mono ?_);rintro e w4 ⟨rfl,hrow4,hc4⟩))
 rw [hR.out] at hrow4
 have hg1:w1.heap.size≤g:=hg2
 have hb13:Below w1.heap.size w1 w3:=A8 hb3 hb2
 have hb14:Below w1.heap.size w1 w4:=Ar hb13 hc4 (fun y hy e=>by have e2:y=g:=e;omega) hb13.size
 obtain ⟨c0,c1,c2⟩:=CC.out w4 hb14
 have SM:=Lib.hid fun W (h:Below w4.heap.size w4 W)=>OE g S L x.size W (Dt hrow4 h)
 have MK:=Lib.hid fun k W=>EH k W
 clear hrow3 hb2 hb3 hc4 hrow hR BTH
 have hb04:=A8 hb14 hb0
 clear hb13 hb14 CC hrow4 hb0
 obtain ⟨oW,hoW⟩:∃ o,layW wd sl gn=o:=⟨_,rfl⟩
 rw [hoW] at WD
 replace hoW:=Lib.hid hoW
 go_region_held3 (fun W=>Below w4.heap.size w4 W∧W.cell? ⟨r,0,none⟩=some (.bool wd)∧W.cell? ⟨r,1,none⟩=some (.int .i64 sl)∧W.cell? ⟨r,2,none⟩=some (.int .i64 gn)) (first | ((first | assumption | ((refine ⟨?_,?_⟩;(first | assumption | exact (Below.refl _ _).drew | exact Below.refl _ _);go_keep))))) (first
  | (go_at_call 226;(with_reducible refine (SM.out _ (And.left (by assumption))).mono ?_);rintro e w5 ⟨rfl,hb5⟩;have hS5:=hold3 (by assumption) hb5)
  | (go_at_call 158;(with_reducible refine (WD.out _).mono ?_);rintro e w6 ⟨rfl,hb6⟩;have hS6:=hold3 (by assumption) hb6)
  | (go_at_call 157;(with_reducible refine (MK.out _ _).mono ?_);rintro e w7 ⟨rfl,rfl⟩))
 all_goals
  go_wp2_with fail
  go_ret
  exact ⟨by rw [hoW.out];rfl,A8 (And.left (by assumption)) hb04⟩
def makeI (wd:Bool) (sl gn a b:Int) (t:Tup) (slot gen:Int):Int:=if Bb wd sl gn slot then cookM wd sl gn a b t (packI wd sl gn slot gen) else 0
set_option maxRecDepth 100000 in
set_option maxHeartbeats 4000000 in
theorem Ss (wd:Bool) (sl gn a b:Int) (t:Tup) (slot:Int) (g:Nat) (hg:g<18446744073709551616) (w:World):Calls Tryz.prog 98 #[layV wd sl gn,.agg #[.int .u64 a,.int .u64 b],t.val,.int .i64 slot,.int .u64 (g:Int)] w fun e w'=>e=.returned (.tuple #[.int .u64 (makeI wd sl gn a b t slot g),.bool (Bb wd sl gn slot)])∧Below w.heap.size w w':=by
 have PK:=Lib.hid fun W=>Sr wd sl gn slot g hg W
 have MS:=Lib.hid fun n W=>OM wd sl gn a b t n W
 unfold makeI
 obtain ⟨o,ho⟩:∃ o,Bb wd sl gn slot=o:=⟨_,rfl⟩
 obtain ⟨pv,hpv⟩:∃ x,packI wd sl gn slot g=x:=⟨_,rfl⟩
 rw [ho,hpv] at PK
 rw [ho,hpv]
 clear ho hpv
 have BL:=((Blk.new w 23 #[.bool wd,.int .i64 sl,.int .i64 gn]).alloc (.cells #[.int .u64 a,.int .u64 b] 26)).alloc (.cells t.cells.toArray 47)
 have BK:=(Blk.new (w.alloc (.cells #[.bool wd,.int .i64 sl,.int .i64 gn] 23)) 26 #[.int .u64 a,.int .u64 b]).alloc (.cells t.cells.toArray 47)
 have BT:=Blk.new ((w.alloc (.cells #[.bool wd,.int .i64 sl,.int .i64 gn] 23)).alloc (.cells #[.int .u64 a,.int .u64 b] 26)) 47 t.cells.toArray
 have hb0:Below w.heap.size w (((w.alloc (.cells #[.bool wd,.int .i64 sl,.int .i64 gn] 23)).alloc (.cells #[.int .u64 a,.int .u64 b] 26)).alloc (.cells t.cells.toArray 47)):=bw
 obtain ⟨p,v,hi,lo,v',hi',lo',sp,dp⟩:=t
 go_enter Tryz.func98,Tryz.ntmps98
 go_upto_region 1 with fail
 change Code.wp _ _ _ _ (((w.alloc (.cells #[.bool wd,.int .i64 sl,.int .i64 gn] 23)).alloc (.cells #[.int .u64 a,.int .u64 b] 26)).alloc (.cells (Tup.cells ⟨p,v,hi,lo,v',hi',lo',sp,dp⟩).toArray 47))
 simp only [World.size_alloc] at BK BT
 generalize ((w.alloc (.cells #[.bool wd,.int .i64 sl,.int .i64 gn] 23)).alloc (.cells #[.int .u64 a,.int .u64 b] 26)).alloc (.cells (Tup.cells ⟨p,v,hi,lo,v',hi',lo',sp,dp⟩).toArray 47)=w1 at *
 obtain ⟨r,hr⟩:∃ r,w.heap.size=r:=⟨_,rfl⟩
 rw [hr] at BL BK BT
 try rw [hr]
 have c0:w1.cell? ⟨r,0,none⟩=some (.bool wd):=BL.cell 0
 have c1:w1.cell? ⟨r,1,none⟩=some (.int .i64 sl):=BL.cell 1
 have c2:w1.cell? ⟨r,2,none⟩=some (.int .i64 gn):=BL.cell 2
 have BLH:=Lib.hid BL
 have BKH:=Lib.hid BK
 have BTH:=Lib.hid BT
 clear BL BK BT
 go_upto_region 2 with (go_at_call 177;(with_reducible refine (PK.out _).mono ?_);rintro e w2 ⟨rfl,hb2⟩;clear c0 c1 c2)
 cases o
 ·
  go_wp2_with fail
  go_ret2
  exact ⟨rfl,by rw [← hr];exact A8 hb2 hb0⟩
 ·
  have BL:=BLH.out.call hb2
  have BK:=BKH.out.call hb2
  have BT:=BTH.out.call hb2
  have c0:w2.cell? ⟨r,0,none⟩=some (.bool wd):=BL.cell 0
  have c1:w2.cell? ⟨r,1,none⟩=some (.int .i64 sl):=BL.cell 1
  have c2:w2.cell? ⟨r,2,none⟩=some (.int .i64 gn):=BL.cell 2
  have k0:w2.cell? ⟨r+1,0,none⟩=some (.int .u64 a):=BK.cell 0
  have k1:w2.cell? ⟨r+1,1,none⟩=some (.int .u64 b):=BK.cell 1
  have t0:w2.cell? ⟨r+1+1,0,none⟩=some (.int .i64 p):=BT.cell 0
  have t1:w2.cell? ⟨r+1+1,1,none⟩=some (.bool v):=BT.cell 1
  have t2:w2.cell? ⟨r+1+1,2,none⟩=some (.int .u64 hi):=BT.cell 2
  have t3:w2.cell? ⟨r+1+1,3,none⟩=some (.int .u64 lo):=BT.cell 3
  have t4:w2.cell? ⟨r+1+1,4,none⟩=some (.bool v'):=BT.cell 4
  have t5:w2.cell? ⟨r+1+1,5,none⟩=some (.int .u64 hi'):=BT.cell 5
  have t6:w2.cell? ⟨r+1+1,6,none⟩=some (.int .u64 lo'):=BT.cell 6
  have t7:w2.cell? ⟨r+1+1,7,none⟩=some (.int .i64 sp):=BT.cell 7
  have t8:w2.cell? ⟨r+1+1,8,none⟩=some (.int .i64 dp):=BT.cell 8
  clear BL BK BT BLH BKH BTH PK
  go_wp2_with (go_at_call 160;(with_reducible refine (MS.out _ _).mono ?_);rintro e w3 ⟨rfl,hb3⟩)
  go_ret2
  exact ⟨rfl,by rw [← hr];exact A8 hb3 (A8 hb2 hb0)⟩
def Bw (wd:Bool) (sl gn n:Int):Bool:=bits BinOp.andNot IntKind.u64 n (maskI (layW wd sl gn))==0
def BS (wd:Bool) (sl gn a b:Int) (t:Tup) (n:Int):Bool:=Bw wd sl gn n && unpOk wd sl gn (cookM wd sl gn a b t n).toNat
def Cs (wd:Bool) (sl gn a b:Int) (t:Tup) (n:Int):Int:=if Bw wd sl gn n then unpS wd sl gn (cookM wd sl gn a b t n).toNat else 0
def D4 (wd:Bool) (sl gn a b:Int) (t:Tup) (n:Int):Int:=if Bw wd sl gn n then unpG wd sl gn (cookM wd sl gn a b t n).toNat else 0
set_option maxRecDepth 100000 in
set_option maxHeartbeats 4000000 in
theorem Su (wd:Bool) (sl gn a b:Int) (t:Tup) (n:Nat) (hn:n<18446744073709551616) (w:World):Calls Tryz.prog 84 #[layV wd sl gn,.agg #[.int .u64 a,.int .u64 b],t.val,.int .u64 (n:Int)] w fun e w'=>e=.returned (.tuple #[.int .i64 (Cs wd sl gn a b t n),.int .u64 (D4 wd sl gn a b t n),.bool (BS wd sl gn a b t n)])∧Below w.heap.size w w':=by
 obtain ⟨h,W,hh,hW,hW2,hcm⟩:=E7 wd sl gn a b t n hn
 obtain ⟨m,hm,hml⟩:∃ m:Nat,cookM wd sl gn a b t n=(m:Int)∧m<18446744073709551616:=⟨_,hcm,Nat.lt_of_lt_of_le (Gb W h n) (I8 W hW2)⟩
 have WD:=Lib.hid fun W=>LR wd sl gn W
 have MK:=Lib.hid fun k W=>(EH k W)
 have MS:=Lib.hid fun W=>OM wd sl gn a b t n W
 have UP:=Lib.hid fun W=>PW wd sl gn m hml W
 have hO:BS wd sl gn a b t n=(Bw wd sl gn n && unpOk wd sl gn m):=by unfold BS;rw [hm,Int.toNat_natCast]
 have hS:Cs wd sl gn a b t n=if Bw wd sl gn n then unpS wd sl gn m else 0:=by unfold Cs;rw [hm,Int.toNat_natCast]
 have hG:D4 wd sl gn a b t n=if Bw wd sl gn n then unpG wd sl gn m else 0:=by unfold D4;rw [hm,Int.toNat_natCast]
 rw [hO,hS,hG]
 rw [hm] at MS
 clear hO hS hG hh hcm hm
 obtain ⟨o1,ho1⟩:∃ o,unpOk wd sl gn m=o:=⟨_,rfl⟩
 obtain ⟨o2,ho2⟩:∃ o,unpS wd sl gn m=o:=⟨_,rfl⟩
 obtain ⟨o3,ho3⟩:∃ o,unpG wd sl gn m=o:=⟨_,rfl⟩
 rw [ho1,ho2,ho3] at UP
 rw [ho1,ho2,ho3]
 clear ho1 ho2 ho3
 obtain ⟨q,hq⟩:∃ q,Bw wd sl gn n=q:=⟨_,rfl⟩
 rw [hq]
 unfold Bw at hq
 have hq2:(bits BinOp.andNot IntKind.u64 (n:Int) (maskI (layW wd sl gn)) != 0)=!q:=by rw [← hq];rfl
 clear hq
 obtain ⟨lw,hlw⟩:∃ l,layW wd sl gn=l:=⟨_,rfl⟩
 rw [hlw] at WD hq2
 clear hlw hW
 have BL:=((Blk.new w 23 #[.bool wd,.int .i64 sl,.int .i64 gn]).alloc (.cells #[.int .u64 a,.int .u64 b] 26)).alloc (.cells t.cells.toArray 47)
 have BK:=(Blk.new (w.alloc (.cells #[.bool wd,.int .i64 sl,.int .i64 gn] 23)) 26 #[.int .u64 a,.int .u64 b]).alloc (.cells t.cells.toArray 47)
 have BT:=Blk.new ((w.alloc (.cells #[.bool wd,.int .i64 sl,.int .i64 gn] 23)).alloc (.cells #[.int .u64 a,.int .u64 b] 26)) 47 t.cells.toArray
 have hb0:Below w.heap.size w (((w.alloc (.cells #[.bool wd,.int .i64 sl,.int .i64 gn] 23)).alloc (.cells #[.int .u64 a,.int .u64 b] 26)).alloc (.cells t.cells.toArray 47)):=bw
 obtain ⟨p,v,hi,lo,v',hi',lo',sp,dp⟩:=t
 go_enter Tryz.func84,Tryz.ntmps84
 go_upto_region 1 with fail
 change Code.wp _ _ _ _ (((w.alloc (.cells #[.bool wd,.int .i64 sl,.int .i64 gn] 23)).alloc (.cells #[.int .u64 a,.int .u64 b] 26)).alloc (.cells (Tup.cells ⟨p,v,hi,lo,v',hi',lo',sp,dp⟩).toArray 47))
 simp only [World.size_alloc] at BK BT
 generalize ((w.alloc (.cells #[.bool wd,.int .i64 sl,.int .i64 gn] 23)).alloc (.cells #[.int .u64 a,.int .u64 b] 26)).alloc (.cells (Tup.cells ⟨p,v,hi,lo,v',hi',lo',sp,dp⟩).toArray 47)=w1 at *
 obtain ⟨r,hr⟩:∃ r,w.heap.size=r:=⟨_,rfl⟩
 rw [hr] at BL BK BT
 try rw [hr]
 have c0:w1.cell? ⟨r,0,none⟩=some (.bool wd):=BL.cell 0
 have c1:w1.cell? ⟨r,1,none⟩=some (.int .i64 sl):=BL.cell 1
 have c2:w1.cell? ⟨r,2,none⟩=some (.int .i64 gn):=BL.cell 2
 have BLH:=Lib.hid BL
 have BKH:=Lib.hid BK
 have BTH:=Lib.hid BT
 clear BL BK BT
 cases q
 ·
  go_wp2_with (first
   | (go_at_call 158;(with_reducible refine (WD.out _).mono ?_);rintro e w2 ⟨rfl,hb2⟩;clear c0 c1 c2)
   | (go_at_call 157;(with_reducible refine (MK.out _ _).mono ?_);rintro e w3 ⟨rfl,rfl⟩))
  refine bodyPost_ret (v:=.tuple #[.int .i64 0,.int .u64 0,.bool false]) (by simp [results,Tryz.results84,go_sem, *]) rfl ?_
  exact ⟨rfl,by rw [← hr];exact A8 hb2 hb0⟩
 ·
  go_upto_region 3 with (first
   | (go_at_call 158;(with_reducible refine (WD.out _).mono ?_);rintro e w2 ⟨rfl,hb2⟩;clear c0 c1 c2)
   | (go_at_call 157;(with_reducible refine (MK.out _ _).mono ?_);rintro e w3 ⟨rfl,rfl⟩))
  have BL:=BLH.out.call hb2
  have BK:=BKH.out.call hb2
  have BT:=BTH.out.call hb2
  have c0:w2.cell? ⟨r,0,none⟩=some (.bool wd):=BL.cell 0
  have c1:w2.cell? ⟨r,1,none⟩=some (.int .i64 sl):=BL.cell 1
  have c2:w2.cell? ⟨r,2,none⟩=some (.int .i64 gn):=BL.cell 2
  have k0:w2.cell? ⟨r+1,0,none⟩=some (.int .u64 a):=BK.cell 0
  have k1:w2.cell? ⟨r+1,1,none⟩=some (.int .u64 b):=BK.cell 1
  have t0:w2.cell? ⟨r+1+1,0,none⟩=some (.int .i64 p):=BT.cell 0
  have t1:w2.cell? ⟨r+1+1,1,none⟩=some (.bool v):=BT.cell 1
  have t2:w2.cell? ⟨r+1+1,2,none⟩=some (.int .u64 hi):=BT.cell 2
  have t3:w2.cell? ⟨r+1+1,3,none⟩=some (.int .u64 lo):=BT.cell 3
  have t4:w2.cell? ⟨r+1+1,4,none⟩=some (.bool v'):=BT.cell 4
  have t5:w2.cell? ⟨r+1+1,5,none⟩=some (.int .u64 hi'):=BT.cell 5
  have t6:w2.cell? ⟨r+1+1,6,none⟩=some (.int .u64 lo'):=BT.cell 6
  have t7:w2.cell? ⟨r+1+1,7,none⟩=some (.int .i64 sp):=BT.cell 7
  have t8:w2.cell? ⟨r+1+1,8,none⟩=some (.int .i64 dp):=BT.cell 8
  have hb02:=A8 hb2 hb0
  clear BL BK BT BLH BKH BTH WD MK hb0 hb2
  have HK:=Lib.hid fun (W W':World) (h:W.cell? ⟨r,0,none⟩=some (.bool wd)∧W.cell? ⟨r,1,none⟩=some (.int .i64 sl)∧W.cell? ⟨r,2,none⟩=some (.int .i64 gn)∧W.cell? ⟨r+1,0,none⟩=some (.int .u64 a)∧W.cell? ⟨r+1,1,none⟩=some (.int .u64 b)∧W.cell? ⟨r+1+1,0,none⟩=some (.int .i64 p)∧W.cell? ⟨r+1+1,1,none⟩=some (.bool v)∧W.cell? ⟨r+1+1,2,none⟩=some (.int .u64 hi)∧W.cell? ⟨r+1+1,3,none⟩=some (.int .u64 lo)∧W.cell? ⟨r+1+1,4,none⟩=some (.bool v')∧W.cell? ⟨r+1+1,5,none⟩=some (.int .u64 hi')∧W.cell? ⟨r+1+1,6,none⟩=some (.int .u64 lo')∧W.cell? ⟨r+1+1,7,none⟩=some (.int .i64 sp)∧W.cell? ⟨r+1+1,8,none⟩=some (.int .i64 dp)) (hb:Below W.heap.size W W')=>show W'.cell? ⟨r,0,none⟩=some (.bool wd)∧W'.cell? ⟨r,1,none⟩=some (.int .i64 sl)∧W'.cell? ⟨r,2,none⟩=some (.int .i64 gn)∧W'.cell? ⟨r+1,0,none⟩=some (.int .u64 a)∧W'.cell? ⟨r+1,1,none⟩=some (.int .u64 b)∧W'.cell? ⟨r+1+1,0,none⟩=some (.int .i64 p)∧W'.cell? ⟨r+1+1,1,none⟩=some (.bool v)∧W'.cell? ⟨r+1+1,2,none⟩=some (.int .u64 hi)∧W'.cell? ⟨r+1+1,3,none⟩=some (.int .u64 lo)∧W'.cell? ⟨r+1+1,4,none⟩=some (.bool v')∧W'.cell? ⟨r+1+1,5,none⟩=some (.int .u64 hi')∧W'.cell? ⟨r+1+1,6,none⟩=some (.int .u64 lo')∧W'.cell? ⟨r+1+1,7,none⟩=some (.int .i64 sp)∧W'.cell? ⟨r+1+1,8,none⟩=some (.int .i64 dp) from by
   obtain ⟨h0,h1,h2,h3,h4,h5,h6,h7,h8,h9,h10,h11,h12,h13⟩:=h
   exact ⟨(hb.cell (A0 h0)).trans h0,(hb.cell (A0 h1)).trans h1,(hb.cell (A0 h2)).trans h2,(hb.cell (A0 h3)).trans h3,(hb.cell (A0 h4)).trans h4,(hb.cell (A0 h5)).trans h5,(hb.cell (A0 h6)).trans h6,(hb.cell (A0 h7)).trans h7,(hb.cell (A0 h8)).trans h8,(hb.cell (A0 h9)).trans h9,(hb.cell (A0 h10)).trans h10,(hb.cell (A0 h11)).trans h11,(hb.cell (A0 h12)).trans h12,(hb.cell (A0 h13)).trans h13⟩
  have hbd:Below w2.heap.size w2 w2.drew:=(Below.refl _ _).drew
  go_region_held3 (fun W=>W.cell? ⟨r,0,none⟩=some (.bool wd)∧W.cell? ⟨r,1,none⟩=some (.int .i64 sl)∧W.cell? ⟨r,2,none⟩=some (.int .i64 gn)∧W.cell? ⟨r+1,0,none⟩=some (.int .u64 a)∧W.cell? ⟨r+1,1,none⟩=some (.int .u64 b)∧W.cell? ⟨r+1+1,0,none⟩=some (.int .i64 p)∧W.cell? ⟨r+1+1,1,none⟩=some (.bool v)∧W.cell? ⟨r+1+1,2,none⟩=some (.int .u64 hi)∧W.cell? ⟨r+1+1,3,none⟩=some (.int .u64 lo)∧W.cell? ⟨r+1+1,4,none⟩=some (.bool v')∧W.cell? ⟨r+1+1,5,none⟩=some (.int .u64 hi')∧W.cell? ⟨r+1+1,6,none⟩=some (.int .u64 lo')∧W.cell? ⟨r+1+1,7,none⟩=some (.int .i64 sp)∧W.cell? ⟨r+1+1,8,none⟩=some (.int .i64 dp)) (first | assumption | (refine ⟨?_,?_,?_,?_,?_,?_,?_,?_,?_,?_,?_,?_,?_,?_⟩ <;> assumption)) (first
   | (go_at_call 160;(with_reducible refine (MS.out _).mono ?_);rintro e w4 ⟨rfl,hb4⟩;have hk4:=HK.out _ _ (by assumption) hb4)
   | (go_at_call 159;(with_reducible refine (UP.out _).mono ?_);rintro e w5 ⟨rfl,hb5⟩;have hk5:=HK.out _ _ (by assumption) hb5))
  clear c0 c1 c2 k0 k1 t0 t1 t2 t3 t4 t5 t6 t7 t8
  go_wp2_with fail
  refine bodyPost_ret (v:=.tuple #[.int .i64 o2,.int .u64 o3,.bool o1]) (by simp [results,Tryz.results84,go_sem, *]) rfl ?_
  exact ⟨rfl,by rw [← hr];exact A8 hb5 (A8 hb4 (A8 hbd hb02))⟩
end Go.Proofs.YteklkljndchjiaaGreat
