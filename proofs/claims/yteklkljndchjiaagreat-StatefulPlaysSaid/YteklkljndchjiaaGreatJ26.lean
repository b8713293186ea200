/- cookie: the document's functions. -/
import Derived.Test.YteklkljndchjiaaGreatJ24
import Derived.Test.YteklkljndchjiaaGreatJ25
namespace Go.Proofs.YteklkljndchjiaaGreat
open Go Go.RowKit Go.Deep
theorem Nn (a b:Nat) (ha:a<18446744073709551616) (hb:b<18446744073709551616):bits BinOp.andNot IntKind.u64 (a:Int) (b:Int)=((a &&& (18446744073709551615 - b):Nat):Int):=by
 have h1:(BitVec.ofInt 64 (a:Int)).toNat=a:=by
  rw [BitVec.ofInt_natCast,BitVec.toNat_ofNat]
  exact Nat.mod_eq_of_lt (by omega)
 have h2:(BitVec.ofInt 64 (b:Int)).toNat=b:=by
  rw [BitVec.ofInt_natCast,BitVec.toNat_ofNat]
  exact Nat.mod_eq_of_lt (by omega)
 have hx:a &&& (18446744073709551615 - b)<2 ^ 64:=Nat.and_lt_two_pow _ (by omega)
 show IntKind.u64.wrap ((BitVec.ofInt 64 (a:Int) &&& ~~~BitVec.ofInt 64 (b:Int)).toNat:Int)=_
 rw [BitVec.toNat_and,BitVec.toNat_not,h1,h2,IntKind.wrap_u64]
 have e:2 ^ 64 - 1 - b=18446744073709551615 - b:=by omega
 rw [e]
 omega
theorem Rb (n W:Nat) (hn:n<2 ^ 64) (hW:W≤64):(n &&& (18446744073709551615 - (2 ^ W - 1))=0) ↔ n<2 ^ W:=by
 have h1:18446744073709551615 - (2 ^ W - 1)=2 ^ W * (2 ^ (64 - W) - 1):=by
  have h2:2 ^ W * 2 ^ (64 - W)=18446744073709551616:=by rw [← Nat.pow_add];rw [show W+(64 - W)=64 by omega]
  have h3:0<2 ^ W:=Nat.pow_pos (by omega)
  rw [Nat.mul_sub,h2]
  omega
 have h4:n &&& (18446744073709551615 - (2 ^ W - 1))=n / 2 ^ W * 2 ^ W:=by
  rw [h1]
  apply Nat.eq_of_testBit_eq
  intro i
  rw [Nat.testBit_and,Nat.mul_comm (2 ^ W),Nat.testBit_mul_two_pow,Nat.testBit_mul_two_pow,Nat.testBit_two_pow_sub_one,Nat.testBit_div_two_pow]
  by_cases hi:W≤i
  ·
   simp only [hi,decide_true,Bool.true_and]
   rw [show i - W+W=i by omega]
   by_cases h5:i - W<64 - W
   · simp [h5]
   ·
    have h6:n.testBit i=false:=Nat.testBit_lt_two_pow (Nat.lt_of_lt_of_le hn (Nat.pow_le_pow_right (by omega) (by omega)))
    simp [h5,h6]
  · simp [hi]
 rw [h4]
 have h3:0<2 ^ W:=Nat.pow_pos (by omega)
 constructor
 ·
  intro h
  rcases Nat.mul_eq_zero.1 h with h | h
  · exact (Nat.div_eq_zero_iff_lt h3).1 h
  · omega
 ·
  intro h
  rw [Nat.div_eq_of_lt h,Nat.zero_mul]
theorem Ic (wd:Bool) (sl gn:Int) (n:Nat) (hn:n<18446744073709551616):∃ W:Nat,layW wd sl gn=W∧W≤64∧Bw wd sl gn n=decide (n<2 ^ W):=by
 obtain ⟨W,hW,hW2⟩:=LW wd sl gn
 refine ⟨W,hW,hW2,?_⟩
 unfold Bw
 have hp:=I8 W hW2
 rw [hW,E5 W hW2,Nn n (2 ^ W - 1) hn (by omega)]
 have h:=Rb n W hn hW2
 rw [Bool.eq_iff_iff,beq_iff_eq,decide_eq_true_eq,← h]
 exact Int.natCast_eq_zero
theorem Kn (k c:Nat) (h:k≤64):decide (maskI (k:Int)<(c:Int))=!decide (c<2 ^ k):=by
 have h0:0<2 ^ k:=Nat.pow_pos (by omega)
 rw [E5 k h,Bool.eq_iff_iff]
 simp only [decide_eq_true_eq,Bool.not_eq_true',decide_eq_false_iff_not]
 omega
theorem PX (k:Nat) (h:k≤63):IntKind.u64.wrap (maskI (k:Int)+1)=((2 ^ k:Nat):Int):=by
 have h0:0<2 ^ k:=Nat.pow_pos (by omega)
 have h1:=pow63 k h
 rw [E5 k (by omega),show ((2 ^ k - 1:Nat):Int)+1=((2 ^ k:Nat):Int) from by omega,wrapN _ (by omega)]
set_option maxRecDepth 100000 in
set_option maxHeartbeats 2000000 in
theorem DK (wd:Bool) (sl gn:Int) (w:World):Calls Tryz.prog 71 #[layV wd sl gn] w fun e w'=>e=.returned (.bool (layOk wd sl gn))∧Below w.heap.size w w':=by
 have BC:=Blk.new w 23 #[.bool wd,.int .i64 sl,.int .i64 gn]
 have hb0:Below w.heap.size w (w.alloc (.cells #[.bool wd,.int .i64 sl,.int .i64 gn] 23)):=Aa (Below.refl _ _) _
 have hlay:layOk wd sl gn=(decide (0≤sl) && decide (sl≤12) && decide (0≤gn) && decide (gn≤(if wd then 63 else 16) - sl)):=by
  unfold layOk
  rw [Bool.eq_iff_iff]
  simp only [decide_eq_true_eq,Bool.and_eq_true]
  omega
 by_cases h0:0≤sl
 ·
  have x0:decide (0≤sl)=true:=by simpa using h0
  by_cases h1:sl≤12
  ·
   have x1:decide (sl≤12)=true:=by simpa using h1
   have hw1:IntKind.i64.wrap (63 - sl)=63 - sl:=by simp [IntKind.wrap,IntKind.bits,IntKind.signed];omega
   have hw2:IntKind.i64.wrap (16 - sl)=16 - sl:=by simp [IntKind.wrap,IntKind.bits,IntKind.signed];omega
   have hw3:wrap64 (63 - sl)=63 - sl:=by unfold wrap64;omega
   have hw4:wrap64 (16 - sl)=16 - sl:=by unfold wrap64;omega
   by_cases h2:0≤gn
   ·
    have x2:decide (0≤gn)=true:=by simpa using h2
    rw [x0,x1,x2] at hlay
    obtain ⟨q,hq⟩:∃ q,decide (gn≤(if wd then 63 else 16) - sl)=q:=⟨_,rfl⟩
    rw [hq] at hlay
    replace hlay:=Lib.hid hlay
    cases wd
    all_goals
     simp only [Bool.false_eq_true,if_true,if_false] at hq
     go_enter Tryz.func71,Tryz.ntmps71
     go_wp2_with fail
     go_ret
     exact ⟨by rw [hlay.out];rfl,hb0⟩
   ·
    have x2:decide (0≤gn)=false:=by simpa using h2
    rw [x0,x1,x2] at hlay
    replace hlay:=Lib.hid hlay
    cases wd
    all_goals
     go_enter Tryz.func71,Tryz.ntmps71
     go_wp2_with fail
     go_ret
     exact ⟨by rw [hlay.out];rfl,hb0⟩
  ·
   have x1:decide (sl≤12)=false:=by simpa using h1
   rw [x0,x1] at hlay
   replace hlay:=Lib.hid hlay
   cases wd
   all_goals
    go_enter Tryz.func71,Tryz.ntmps71
    go_wp2_with fail
    go_ret
    exact ⟨by rw [hlay.out];rfl,hb0⟩
 ·
  have x0:decide (0≤sl)=false:=by simpa using h0
  rw [x0] at hlay
  replace hlay:=Lib.hid hlay
  cases wd
  all_goals
   go_enter Tryz.func71,Tryz.ntmps71
   go_wp2_with fail
   go_ret
   exact ⟨by rw [hlay.out];rfl,hb0⟩
theorem Hf (wd:Bool) (sl gn:Int) (w:World):Calls Tryz.prog 162 #[layV wd sl gn] w fun e w'=>e=.returned (.int .i64 (layW wd sl gn))∧Below w.heap.size w w':=by
 have RT:=Lib.hid fun W=>DK wd sl gn W
 have BC:=Blk.new w 23 #[.bool wd,.int .i64 sl,.int .i64 gn]
 have hb0:Below w.heap.size w (w.alloc (.cells #[.bool wd,.int .i64 sl,.int .i64 gn] 23)):=Aa (Below.refl _ _) _
 have hW:layW wd sl gn=if layOk wd sl gn then bitsN wd else 0:=rfl
 obtain ⟨o,ho⟩:∃ o,layOk wd sl gn=o:=⟨_,rfl⟩
 rw [ho] at RT hW
 replace hW:=Lib.hid hW
 clear ho
 go_enter Tryz.func162,Tryz.ntmps162
 go_upto_region 1 with fail
 generalize w.alloc (.cells #[.bool wd,.int .i64 sl,.int .i64 gn] 23)=w1 at *
 obtain ⟨r,hr⟩:∃ r,w.heap.size=r:=⟨_,rfl⟩
 rw [hr] at BC
 try rw [hr]
 have CC:=Lib.hid fun W (h:Below w1.heap.size w1 W)=>show W.cell? ⟨r,0,none⟩=some (.bool wd)∧W.cell? ⟨r,1,none⟩=some (.int .i64 sl)∧W.cell? ⟨r,2,none⟩=some (.int .i64 gn) from ⟨(BC.call h).cell 0,(BC.call h).cell 1,(BC.call h).cell 2⟩
 clear BC
 obtain ⟨c0,c1,c2⟩:=CC.out w1 (Below.refl _ _)
 cases o <;> cases wd
 all_goals
  go_wp2_with (first | (go_at_call 71;(with_reducible refine (RT.out _).mono ?_);rintro e w2 ⟨rfl,hb2⟩;clear c0 c1 c2;obtain ⟨c0,c1,c2⟩:=CC.out w2 hb2))
  go_ret
  exact ⟨by rw [hW.out];rfl,bw⟩
set_option maxRecDepth 100000 in
set_option maxHeartbeats 4000000 in
theorem Np (wd:Bool) (sl gn slot:Int) (g:Nat) (hg:g<18446744073709551616) (hs:slot<9223372036854775808) (w:World):Calls Tryz.prog 178 #[layV wd sl gn,.int .i64 slot,.int .u64 (g:Int)] w fun e w'=>e=.returned (.tuple #[.int .u64 (packI wd sl gn slot g),.bool (Bb wd sl gn slot)])∧Below w.heap.size w w':=by
 have RT:=Lib.hid fun W=>DK wd sl gn W
 have BC:=Blk.new w 23 #[.bool wd,.int .i64 sl,.int .i64 gn]
 have hb0:Below w.heap.size w (w.alloc (.cells #[.bool wd,.int .i64 sl,.int .i64 gn] 23)):=Aa (Below.refl _ _) _
 obtain ⟨o,ho⟩:∃ o,layOk wd sl gn=o:=⟨_,rfl⟩
 cases o
 ·
  have hP:Bb wd sl gn slot=false:=by unfold Bb;rw [ho];rfl
  have hI:packI wd sl gn slot g=0:=by unfold packI;rw [hP];rfl
  rw [ho] at RT
  rw [hP,hI]
  clear hP hI ho
  go_enter Tryz.func178,Tryz.ntmps178
  go_upto_region 1 with fail
  generalize w.alloc (.cells #[.bool wd,.int .i64 sl,.int .i64 gn] 23)=w1 at *
  obtain ⟨r,hr⟩:∃ r,w.heap.size=r:=⟨_,rfl⟩
  rw [hr] at BC
  try rw [hr]
  have c0:=BC.cell 0
  have c1:=BC.cell 1
  have c2:=BC.cell 2
  simp at c0 c1 c2
  go_wp2_with (go_at_call 71;(with_reducible refine (RT.out _).mono ?_);rintro e w2 ⟨rfl,hb2⟩)
  go_ret2
  exact ⟨rfl,bw⟩
 ·
  obtain ⟨a,b,rfl,rfl,ha,hab⟩:=C9 ho
  have hab2:a+b≤63:=Nat.le_trans hab (by split <;> omega)
  have hPq:Bb wd a b slot=decide (0≤slot∧slot<2 ^ a):=by unfold Bb;rw [ho,Int.toNat_natCast];rfl
  rw [ho] at RT
  have ha0:(0:Int)≤(a:Int):=by omega
  by_cases hs0:slot<0
  ·
   have hP:Bb wd a b slot=false:=by rw [hPq];simp;omega
   have hI:packI wd a b slot g=0:=by unfold packI;rw [hP];rfl
   have x0:decide (slot<0)=true:=by simpa using hs0
   rw [hP,hI]
   clear hP hI ho hPq
   go_enter Tryz.func178,Tryz.ntmps178
   go_upto_region 1 with fail
   generalize w.alloc (.cells #[.bool wd,.int .i64 (a:Int),.int .i64 (b:Int)] 23)=w1 at *
   obtain ⟨r,hr⟩:∃ r,w.heap.size=r:=⟨_,rfl⟩
   rw [hr] at BC
   try rw [hr]
   have c0:=BC.cell 0
   have c1:=BC.cell 1
   have c2:=BC.cell 2
   simp at c0 c1 c2
   go_wp2_with (go_at_call 71;(with_reducible refine (RT.out _).mono ?_);rintro e w2 ⟨rfl,hb2⟩)
   go_ret2
   exact ⟨rfl,bw⟩
  ·
   obtain ⟨c,rfl⟩:∃ c:Nat,slot=c:=⟨slot.toNat,by omega⟩
   have x0:decide ((c:Int)<0)=false:=by simp
   have hcw:IntKind.u64.wrap (c:Int)=(c:Int):=wrapN c (by omega)
   have hsh:=Kn a c (by omega)
   have MK:=Lib.hid fun k W=>(Ci k W)
   have MQ:=Lib.hid fun k W=>(Ci k W).mono fun _ _ h=>And.intro h.1 h.2.symm
   by_cases hc:c<2 ^ a
   ·
    have hP:Bb wd a b c=true:=by
     rw [hPq,decide_eq_true_eq]
     refine ⟨by omega,?_⟩
     have:((c:Nat):Int)<((2 ^ a:Nat):Int):=by exact_mod_cast hc
     simpa using this
    have hI:=Gl (g:=g) hP
    have hpc:=R9 a b c g hab2 hc hg
    rw [show decide (c<2 ^ a)=true from decide_eq_true hc] at hsh
    rw [hP,hI]
    replace hpc:=Lib.hid hpc
    clear hP hI ho hPq
    go_enter Tryz.func178,Tryz.ntmps178
    go_upto_region 1 with fail
    generalize w.alloc (.cells #[.bool wd,.int .i64 (a:Int),.int .i64 (b:Int)] 23)=w1 at *
    obtain ⟨r,hr⟩:∃ r,w.heap.size=r:=⟨_,rfl⟩
    rw [hr] at BC
    try rw [hr]
    have CC:=Lib.hid fun W (h:Below w1.heap.size w1 W)=>show W.cell? ⟨r,0,none⟩=some (.bool wd)∧W.cell? ⟨r,1,none⟩=some (.int .i64 (a:Int))∧W.cell? ⟨r,2,none⟩=some (.int .i64 (b:Int)) from ⟨(BC.call h).cell 0,(BC.call h).cell 1,(BC.call h).cell 2⟩
    clear BC
    obtain ⟨c0,c1,c2⟩:=CC.out w1 (Below.refl _ _)
    go_upto_region 3 with (first | (go_at_call 71;(with_reducible refine (RT.out _).mono ?_);rintro e w2 ⟨rfl,hb2⟩;clear c0 c1 c2;obtain ⟨c0,c1,c2⟩:=CC.out w2 hb2) | (go_at_call 161;(with_reducible refine (MK.out _ _).mono ?_);rintro e w3 ⟨rfl,rfl⟩))
    go_quiet (first | (go_at_call 161;with_reducible exact Calls.quiet_of_same (MQ.out _ _)))
    go_wp2_with fail
    go_ret2
    exact ⟨congrArg (fun x=>Ending.returned (Value.tuple #[.int .u64 x,.bool true])) hpc.out,bw⟩
   ·
    have hP:Bb wd a b c=false:=by
     rw [hPq,decide_eq_false_iff_not]
     rintro ⟨-,h⟩
     have:((c:Nat):Int)<((2 ^ a:Nat):Int):=by simpa using h
     omega
    have hI:packI wd a b c g=0:=by unfold packI;rw [hP];rfl
    rw [show decide (c<2 ^ a)=false from decide_eq_false hc] at hsh
    rw [hP,hI]
    clear hP hI ho hPq
    go_enter Tryz.func178,Tryz.ntmps178
    go_upto_region 1 with fail
    generalize w.alloc (.cells #[.bool wd,.int .i64 (a:Int),.int .i64 (b:Int)] 23)=w1 at *
    obtain ⟨r,hr⟩:∃ r,w.heap.size=r:=⟨_,rfl⟩
    rw [hr] at BC
    try rw [hr]
    have CC:=Lib.hid fun W (h:Below w1.heap.size w1 W)=>show W.cell? ⟨r,0,none⟩=some (.bool wd)∧W.cell? ⟨r,1,none⟩=some (.int .i64 (a:Int))∧W.cell? ⟨r,2,none⟩=some (.int .i64 (b:Int)) from ⟨(BC.call h).cell 0,(BC.call h).cell 1,(BC.call h).cell 2⟩
    clear BC
    obtain ⟨c0,c1,c2⟩:=CC.out w1 (Below.refl _ _)
    go_wp2_with (first | (go_at_call 71;(with_reducible refine (RT.out _).mono ?_);rintro e w2 ⟨rfl,hb2⟩;clear c0 c1 c2;obtain ⟨c0,c1,c2⟩:=CC.out w2 hb2) | (go_at_call 161;(with_reducible refine (MK.out _ _).mono ?_);rintro e w3 ⟨rfl,rfl⟩))
    go_ret2
    exact ⟨rfl,bw⟩
set_option maxRecDepth 100000 in
set_option maxHeartbeats 4000000 in
theorem Ko (wd:Bool) (sl gn:Int) (p:Nat) (hp:p<18446744073709551616) (w:World):Calls Tryz.prog 163 #[layV wd sl gn,.int .u64 (p:Int)] w fun e w'=>e=.returned (.tuple #[.int .i64 (unpS wd sl gn p),.int .u64 (unpG wd sl gn p),.bool (unpOk wd sl gn p)])∧Below w.heap.size w w':=by
 have RT:=Lib.hid fun W=>DK wd sl gn W
 have BC:=Blk.new w 23 #[.bool wd,.int .i64 sl,.int .i64 gn]
 have hb0:Below w.heap.size w (w.alloc (.cells #[.bool wd,.int .i64 sl,.int .i64 gn] 23)):=Aa (Below.refl _ _) _
 obtain ⟨o,ho⟩:∃ o,layOk wd sl gn=o:=⟨_,rfl⟩
 cases o
 ·
  have hP:unpOk wd sl gn p=false:=by unfold unpOk;rw [ho];rfl
  obtain ⟨e1,e2⟩:=Kl hP
  rw [ho] at RT
  rw [hP,e1,e2]
  clear hP e1 e2 ho
  go_enter Tryz.func163,Tryz.ntmps163
  go_upto_region 1 with fail
  generalize w.alloc (.cells #[.bool wd,.int .i64 sl,.int .i64 gn] 23)=w1 at *
  obtain ⟨r,hr⟩:∃ r,w.heap.size=r:=⟨_,rfl⟩
  rw [hr] at BC
  try rw [hr]
  have c0:=BC.cell 0
  have c1:=BC.cell 1
  have c2:=BC.cell 2
  simp at c0 c1 c2
  go_wp2_with (go_at_call 71;(with_reducible refine (RT.out _).mono ?_);rintro e w2 ⟨rfl,hb2⟩)
  refine bodyPost_ret (v:=.tuple #[.int .i64 0,.int .u64 0,.bool false]) (by simp [results,Tryz.results163,go_sem, *]) rfl ?_
  exact ⟨rfl,bw⟩
 ·
  obtain ⟨a,b,rfl,rfl,ha,hab⟩:=C9 ho
  have hab2:a+b≤63:=Nat.le_trans hab (by split <;> omega)
  have hPq:unpOk wd a b p=decide (p<2 ^ (a+b)):=by unfold unpOk;rw [ho,Int.toNat_natCast,Int.toNat_natCast];rfl
  rw [ho] at RT
  have ha0:(0:Int)≤(a:Int):=by omega
  have hsum:IntKind.i64.wrap ((a:Int)+(b:Int))=((a+b:Nat):Int):=by rw [← Int.natCast_add];exact wrapI _ (by omega)
  have hab0:(0:Int)≤((a+b:Nat):Int):=by omega
  have hsh:decide (maskI ((a:Int)+(b:Int))<(p:Int))=!decide (p<2 ^ (a+b)):=by rw [← Int.natCast_add];exact Kn (a+b) p (by omega)
  have MK:=Lib.hid fun k W=>(Ci k W)
  by_cases hc:p<2 ^ (a+b)
  ·
   have hP:unpOk wd a b p=true:=by rw [hPq];exact decide_eq_true hc
   obtain ⟨e1,e2⟩:=Km hP
   rw [show decide (p<2 ^ (a+b))=true from decide_eq_true hc] at hsh
   have hms:=PX a (by omega)
   obtain ⟨z,hz⟩:∃ z,2 ^ a=z:=⟨_,rfl⟩
   have hz0:0<z:=by rw [← hz];exact Nat.pow_pos (by omega)
   have hzl:z≤9223372036854775808:=by rw [← hz];exact pow63 a (by omega)
   rw [hz] at hms
   have hzi:((z:Nat):Int)≠0:=by omega
   have hzb:(((z:Nat):Int)==0)=false:=by simp;omega
   have hmod:p % z<z:=Nat.mod_lt _ hz0
   have hrm:(p:Int) % (z:Int)=((p % z:Nat):Int):=by simp
   have hlw:wrap64 ((p:Int) % (z:Int))=((p % z:Nat):Int):=by
    rw [hrm]
    unfold wrap64
    omega
   have hdv:IntKind.u64.wrap ((p:Int) / (z:Int))=((p / z:Nat):Int):=by
    rw [show (p:Int) / (z:Int)=((p / z:Nat):Int) from by simp]
    exact wrapN _ (Nat.lt_of_le_of_lt (Nat.div_le_self p z) hp)
   rw [hz] at e1 e2
   rw [hP,e1,e2]
   replace hlw:=Lib.hid hlw
   replace hdv:=Lib.hid hdv
   clear hP e1 e2 ho hPq hrm hz hmod hzl
   go_enter Tryz.func163,Tryz.ntmps163
   go_upto_region 1 with fail
   generalize w.alloc (.cells #[.bool wd,.int .i64 (a:Int),.int .i64 (b:Int)] 23)=w1 at *
   obtain ⟨r,hr⟩:∃ r,w.heap.size=r:=⟨_,rfl⟩
   rw [hr] at BC
   try rw [hr]
   have CC:=Lib.hid fun W (h:Below w1.heap.size w1 W)=>show W.cell? ⟨r,0,none⟩=some (.bool wd)∧W.cell? ⟨r,1,none⟩=some (.int .i64 (a:Int))∧W.cell? ⟨r,2,none⟩=some (.int .i64 (b:Int)) from ⟨(BC.call h).cell 0,(BC.call h).cell 1,(BC.call h).cell 2⟩
   clear BC
   obtain ⟨c0,c1,c2⟩:=CC.out w1 (Below.refl _ _)
   go_upto_region 4 with (first | (go_at_call 71;(with_reducible refine (RT.out _).mono ?_);rintro e w2 ⟨rfl,hb2⟩;clear c0 c1 c2;obtain ⟨c0,c1,c2⟩:=CC.out w2 hb2) | (go_at_call 161;(with_reducible refine (MK.out _ _).mono ?_);rintro e w3 ⟨rfl,rfl⟩))
   go_quiet (fail)
   go_wp2_with fail
   refine bodyPost_ret (v:=.tuple #[.int .i64 (wrap64 ((p:Int) % (z:Int))),.int .u64 (IntKind.u64.wrap ((p:Int) / (z:Int))),.bool true]) (by simp [results,Tryz.results163,go_sem, *]) rfl ?_
   exact ⟨by rw [hlw.out,hdv.out],bw⟩
  ·
   have hP:unpOk wd a b p=false:=by rw [hPq];exact decide_eq_false hc
   obtain ⟨e1,e2⟩:=Kl hP
   rw [show decide (p<2 ^ (a+b))=false from decide_eq_false hc] at hsh
   rw [hP,e1,e2]
   clear hP e1 e2 ho hPq
   go_enter Tryz.func163,Tryz.ntmps163
   go_upto_region 1 with fail
   generalize w.alloc (.cells #[.bool wd,.int .i64 (a:Int),.int .i64 (b:Int)] 23)=w1 at *
   obtain ⟨r,hr⟩:∃ r,w.heap.size=r:=⟨_,rfl⟩
   rw [hr] at BC
   try rw [hr]
   have CC:=Lib.hid fun W (h:Below w1.heap.size w1 W)=>show W.cell? ⟨r,0,none⟩=some (.bool wd)∧W.cell? ⟨r,1,none⟩=some (.int .i64 (a:Int))∧W.cell? ⟨r,2,none⟩=some (.int .i64 (b:Int)) from ⟨(BC.call h).cell 0,(BC.call h).cell 1,(BC.call h).cell 2⟩
   clear BC
   obtain ⟨c0,c1,c2⟩:=CC.out w1 (Below.refl _ _)
   go_wp2_with (first | (go_at_call 71;(with_reducible refine (RT.out _).mono ?_);rintro e w2 ⟨rfl,hb2⟩;clear c0 c1 c2;obtain ⟨c0,c1,c2⟩:=CC.out w2 hb2) | (go_at_call 161;(with_reducible refine (MK.out _ _).mono ?_);rintro e w3 ⟨rfl,rfl⟩))
   refine bodyPost_ret (v:=.tuple #[.int .i64 0,.int .u64 0,.bool false]) (by simp [results,Tryz.results163,go_sem, *]) rfl ?_
   exact ⟨rfl,bw⟩
set_option maxRecDepth 100000 in
set_option maxHeartbeats 4000000 in
theorem Ie (wd:Bool) (sl gn a b:Int) (t:Tup) (ht:tupWf t) (n:Int) (w:World):Calls Tryz.prog 164 #[layV wd sl gn,.agg #[.int .u64 a,.int .u64 b],t.val,.int .u64 n] w fun e w'=>e=.returned (.int .u64 (cookM wd sl gn a b t n))∧Below w.heap.size w w':=by
 have WD:=Lib.hid fun W=>Hf wd sl gn W
 have MK:=Lib.hid fun k W=>Ci k W
 obtain ⟨x,hx⟩:∃ x,(⟨(BW t).toArray⟩:ByteArray)=x:=⟨_,rfl⟩
 have hxl:x.size≤1000000:=by rw [← hx];have:=Ep t;show (BW t).toArray.size≤_;simp;omega
 have TP:=Lib.hid fun W=>G6 t W ht.1 ht.2.1 ht.2.2.1 ht.2.2.2
 have HS:=Lib.hid fun W=>Hb a b x W hxl
 have hC:cookM wd sl gn a b t n=bits BinOp.and IntKind.u64 (bits BinOp.xor IntKind.u64 n (C8 a b x)) (maskI (layW wd sl gn)):=by
  unfold cookM hashT
  rw [hx]
 rw [hC]
 rw [hx] at TP
 clear hC hx ht hxl
 obtain ⟨oW,hoW⟩:∃ o,layW wd sl gn=o:=⟨_,rfl⟩
 rw [hoW] at WD ⊢
 clear hoW
 obtain ⟨oh,hoh⟩:∃ o,C8 a b x=o:=⟨_,rfl⟩
 rw [hoh] at HS ⊢
 clear hoh
 have BL:=((Blk.new w 23 #[.bool wd,.int .i64 sl,.int .i64 gn]).alloc (.cells #[.int .u64 a,.int .u64 b] 26)).alloc (.cells t.cells.toArray 47)
 have BK:=(Blk.new (w.alloc (.cells #[.bool wd,.int .i64 sl,.int .i64 gn] 23)) 26 #[.int .u64 a,.int .u64 b]).alloc (.cells t.cells.toArray 47)
 have BT:=Blk.new ((w.alloc (.cells #[.bool wd,.int .i64 sl,.int .i64 gn] 23)).alloc (.cells #[.int .u64 a,.int .u64 b] 26)) 47 t.cells.toArray
 have hb0:Below w.heap.size w (((w.alloc (.cells #[.bool wd,.int .i64 sl,.int .i64 gn] 23)).alloc (.cells #[.int .u64 a,.int .u64 b] 26)).alloc (.cells t.cells.toArray 47)):=bw
 obtain ⟨p,v,hi,lo,v',hi',lo',sp,dp⟩:=t
 go_enter Tryz.func164,Tryz.ntmps164
 go_upto_region 1 with fail
 change Code.wp _ _ _ _ (((w.alloc (.cells #[.bool wd,.int .i64 sl,.int .i64 gn] 23)).alloc (.cells #[.int .u64 a,.int .u64 b] 26)).alloc (.cells (Tup.cells ⟨p,v,hi,lo,v',hi',lo',sp,dp⟩).toArray 47))
 simp only [World.size_alloc] at BK BT
 generalize ((w.alloc (.cells #[.bool wd,.int .i64 sl,.int .i64 gn] 23)).alloc (.cells #[.int .u64 a,.int .u64 b] 26)).alloc (.cells (Tup.cells ⟨p,v,hi,lo,v',hi',lo',sp,dp⟩).toArray 47)=w1 at *
 obtain ⟨r,hr⟩:∃ r,w.heap.size=r:=⟨_,rfl⟩
 rw [hr] at BL BK BT
 try rw [hr]
 have c0:w1.cell? ⟨r,0,none⟩=some (.bool wd):=BL.cell 0
 have c1:w1.cell? ⟨r,1,none⟩=some (.int .i64 sl):=BL.cell 1
 have c2:w1.cell? ⟨r,2,none⟩=some (.int .i64 gn):=BL.cell 2
 have k0:w1.cell? ⟨r+1,0,none⟩=some (.int .u64 a):=BK.cell 0
 have k1:w1.cell? ⟨r+1,1,none⟩=some (.int .u64 b):=BK.cell 1
 have t0:w1.cell? ⟨r+1+1,0,none⟩=some (.int .i64 p):=BT.cell 0
 have t1:w1.cell? ⟨r+1+1,1,none⟩=some (.bool v):=BT.cell 1
 have t2:w1.cell? ⟨r+1+1,2,none⟩=some (.int .u64 hi):=BT.cell 2
 have t3:w1.cell? ⟨r+1+1,3,none⟩=some (.int .u64 lo):=BT.cell 3
 have t4:w1.cell? ⟨r+1+1,4,none⟩=some (.bool v'):=BT.cell 4
 have t5:w1.cell? ⟨r+1+1,5,none⟩=some (.int .u64 hi'):=BT.cell 5
 have t6:w1.cell? ⟨r+1+1,6,none⟩=some (.int .u64 lo'):=BT.cell 6
 have t7:w1.cell? ⟨r+1+1,7,none⟩=some (.int .i64 sp):=BT.cell 7
 have t8:w1.cell? ⟨r+1+1,8,none⟩=some (.int .i64 dp):=BT.cell 8
 clear BL BK BT
 have HK:=Lib.hid fun (W W':World) (h:W.cell? ⟨r,0,none⟩=some (.bool wd)∧W.cell? ⟨r,1,none⟩=some (.int .i64 sl)∧W.cell? ⟨r,2,none⟩=some (.int .i64 gn)∧W.cell? ⟨r+1,0,none⟩=some (.int .u64 a)∧W.cell? ⟨r+1,1,none⟩=some (.int .u64 b)∧W.cell? ⟨r+1+1,0,none⟩=some (.int .i64 p)∧W.cell? ⟨r+1+1,1,none⟩=some (.bool v)∧W.cell? ⟨r+1+1,2,none⟩=some (.int .u64 hi)∧W.cell? ⟨r+1+1,3,none⟩=some (.int .u64 lo)∧W.cell? ⟨r+1+1,4,none⟩=some (.bool v')∧W.cell? ⟨r+1+1,5,none⟩=some (.int .u64 hi')∧W.cell? ⟨r+1+1,6,none⟩=some (.int .u64 lo')∧W.cell? ⟨r+1+1,7,none⟩=some (.int .i64 sp)∧W.cell? ⟨r+1+1,8,none⟩=some (.int .i64 dp)) (hb:Below W.heap.size W W')=>show W'.cell? ⟨r,0,none⟩=some (.bool wd)∧W'.cell? ⟨r,1,none⟩=some (.int .i64 sl)∧W'.cell? ⟨r,2,none⟩=some (.int .i64 gn)∧W'.cell? ⟨r+1,0,none⟩=some (.int .u64 a)∧W'.cell? ⟨r+1,1,none⟩=some (.int .u64 b)∧W'.cell? ⟨r+1+1,0,none⟩=some (.int .i64 p)∧W'.cell? ⟨r+1+1,1,none⟩=some (.bool v)∧W'.cell? ⟨r+1+1,2,none⟩=some (.int .u64 hi)∧W'.cell? ⟨r+1+1,3,none⟩=some (.int .u64 lo)∧W'.cell? ⟨r+1+1,4,none⟩=some (.bool v')∧W'.cell? ⟨r+1+1,5,none⟩=some (.int .u64 hi')∧W'.cell? ⟨r+1+1,6,none⟩=some (.int .u64 lo')∧W'.cell? ⟨r+1+1,7,none⟩=some (.int .i64 sp)∧W'.cell? ⟨r+1+1,8,none⟩=some (.int .i64 dp) from by
  obtain ⟨h0,h1,h2,h3,h4,h5,h6,h7,h8,h9,h10,h11,h12,h13⟩:=h
  exact ⟨(hb.cell (A0 h0)).trans h0,(hb.cell (A0 h1)).trans h1,(hb.cell (A0 h2)).trans h2,(hb.cell (A0 h3)).trans h3,(hb.cell (A0 h4)).trans h4,(hb.cell (A0 h5)).trans h5,(hb.cell (A0 h6)).trans h6,(hb.cell (A0 h7)).trans h7,(hb.cell (A0 h8)).trans h8,(hb.cell (A0 h9)).trans h9,(hb.cell (A0 h10)).trans h10,(hb.cell (A0 h11)).trans h11,(hb.cell (A0 h12)).trans h12,(hb.cell (A0 h13)).trans h13⟩
 have hB:=Lib.hid fun (W W':World) (h:Below w1.heap.size w1 W) (hb:Below W.heap.size W W')=>A8 hb h
 go_region_held3 (fun W=>Below w1.heap.size w1 W∧W.cell? ⟨r,0,none⟩=some (.bool wd)∧W.cell? ⟨r,1,none⟩=some (.int .i64 sl)∧W.cell? ⟨r,2,none⟩=some (.int .i64 gn)∧W.cell? ⟨r+1,0,none⟩=some (.int .u64 a)∧W.cell? ⟨r+1,1,none⟩=some (.int .u64 b)∧W.cell? ⟨r+1+1,0,none⟩=some (.int .i64 p)∧W.cell? ⟨r+1+1,1,none⟩=some (.bool v)∧W.cell? ⟨r+1+1,2,none⟩=some (.int .u64 hi)∧W.cell? ⟨r+1+1,3,none⟩=some (.int .u64 lo)∧W.cell? ⟨r+1+1,4,none⟩=some (.bool v')∧W.cell? ⟨r+1+1,5,none⟩=some (.int .u64 hi')∧W.cell? ⟨r+1+1,6,none⟩=some (.int .u64 lo')∧W.cell? ⟨r+1+1,7,none⟩=some (.int .i64 sp)∧W.cell? ⟨r+1+1,8,none⟩=some (.int .i64 dp)) (first | assumption | exact ⟨(Below.refl _ _).drew,by refine ⟨?_,?_,?_,?_,?_,?_,?_,?_,?_,?_,?_,?_,?_,?_⟩ <;> assumption⟩) (first
  | (go_at_call 220;(with_reducible refine (TP.out _).mono ?_);rintro e w4 ⟨rfl,hb4⟩;have hk4:=And.intro (hB.out _ _ (And.left (by assumption)) hb4) (HK.out _ _ (And.right (by assumption)) hb4))
  | (go_at_call 219;(with_reducible refine (HS.out _).mono ?_);rintro e w5 ⟨rfl,hb5⟩;have hk5:=And.intro (hB.out _ _ (And.left (by assumption)) hb5) (HK.out _ _ (And.right (by assumption)) hb5))
  | (go_at_call 162;(with_reducible refine (WD.out _).mono ?_);rintro e w6 ⟨rfl,hb6⟩;have hk6:=And.intro (hB.out _ _ (And.left (by assumption)) hb6) (HK.out _ _ (And.right (by assumption)) hb6))
  | (go_at_call 161;(with_reducible refine (MK.out _ _).mono ?_);rintro e w7 ⟨rfl,rfl⟩))
 all_goals
  go_wp2_with fail
  go_ret
  exact ⟨rfl,A8 (And.left (by assumption)) hb0⟩
set_option maxRecDepth 100000 in
set_option maxHeartbeats 4000000 in
theorem Nq (wd:Bool) (sl gn a b:Int) (t:Tup) (ht:tupWf t) (slot:Int) (g:Nat) (hg:g<18446744073709551616) (hs:slot<9223372036854775808) (w:World):Calls Tryz.prog 99 #[layV wd sl gn,.agg #[.int .u64 a,.int .u64 b],t.val,.int .i64 slot,.int .u64 (g:Int)] w fun e w'=>e=.returned (.tuple #[.int .u64 (makeI wd sl gn a b t slot g),.bool (Bb wd sl gn slot)])∧Below w.heap.size w w':=by
 have PK:=Lib.hid fun W=>Np wd sl gn slot g hg hs W
 have MS:=Lib.hid fun n W=>Ie wd sl gn a b t ht n W
 unfold makeI
 obtain ⟨o,ho⟩:∃ o,Bb wd sl gn slot=o:=⟨_,rfl⟩
 obtain ⟨pv,hpv⟩:∃ x,packI wd sl gn slot g=x:=⟨_,rfl⟩
 rw [ho,hpv] at PK
 rw [ho,hpv]
 clear ho hpv ht hs
 have BL:=((Blk.new w 23 #[.bool wd,.int .i64 sl,.int .i64 gn]).alloc (.cells #[.int .u64 a,.int .u64 b] 26)).alloc (.cells t.cells.toArray 47)
 have BK:=(Blk.new (w.alloc (.cells #[.bool wd,.int .i64 sl,.int .i64 gn] 23)) 26 #[.int .u64 a,.int .u64 b]).alloc (.cells t.cells.toArray 47)
 have BT:=Blk.new ((w.alloc (.cells #[.bool wd,.int .i64 sl,.int .i64 gn] 23)).alloc (.cells #[.int .u64 a,.int .u64 b] 26)) 47 t.cells.toArray
 have hb0:Below w.heap.size w (((w.alloc (.cells #[.bool wd,.int .i64 sl,.int .i64 gn] 23)).alloc (.cells #[.int .u64 a,.int .u64 b] 26)).alloc (.cells t.cells.toArray 47)):=bw
 obtain ⟨p,v,hi,lo,v',hi',lo',sp,dp⟩:=t
 go_enter Tryz.func99,Tryz.ntmps99
 go_upto_region 1 with fail
 change Code.wp _ _ _ _ (((w.alloc (.cells #[.bool wd,.int .i64 sl,.int .i64 gn] 23)).alloc (.cells #[.int .u64 a,.int .u64 b] 26)).alloc (.cells (Tup.cells ⟨p,v,hi,lo,v',hi',lo',sp,dp⟩).toArray 47))
 simp only [World.size_alloc] at BK BT
 generalize ((w.alloc (.cells #[.bool wd,.int .i64 sl,.int .i64 gn] 23)).alloc (.cells #[.int .u64 a,.int .u64 b] 26)).alloc (.cells (Tup.cells ⟨p,v,hi,lo,v',hi',lo',sp,dp⟩).toArray 47)=w1 at *
 obtain ⟨r,hr⟩:∃ r,w.heap.size=r:=⟨_,rfl⟩
 rw [hr] at BL BK BT
 try rw [hr]
 have c0:w1.cell? ⟨r,0,none⟩=some (.bool wd):=BL.cell 0
 have c1:w1.cell? ⟨r,1,none⟩=some (.int .i64 sl):=BL.cell 1
 have c2:w1.cell? ⟨r,2,none⟩=some (.int .i64 gn):=BL.cell 2
 have BLH:=Lib.hid BL
 have BKH:=Lib.hid BK
 have BTH:=Lib.hid BT
 clear BL BK BT
 go_upto_region 2 with (go_at_call 178;(with_reducible refine (PK.out _).mono ?_);rintro e w2 ⟨rfl,hb2⟩;clear c0 c1 c2)
 cases o
 ·
  go_wp2_with fail
  go_ret2
  exact ⟨rfl,by rw [← hr];exact A8 hb2 hb0⟩
 ·
  have BL:=BLH.out.call hb2
  have BK:=BKH.out.call hb2
  have BT:=BTH.out.call hb2
  have c0:w2.cell? ⟨r,0,none⟩=some (.bool wd):=BL.cell 0
  have c1:w2.cell? ⟨r,1,none⟩=some (.int .i64 sl):=BL.cell 1
  have c2:w2.cell? ⟨r,2,none⟩=some (.int .i64 gn):=BL.cell 2
  have k0:w2.cell? ⟨r+1,0,none⟩=some (.int .u64 a):=BK.cell 0
  have k1:w2.cell? ⟨r+1,1,none⟩=some (.int .u64 b):=BK.cell 1
  have t0:w2.cell? ⟨r+1+1,0,none⟩=some (.int .i64 p):=BT.cell 0
  have t1:w2.cell? ⟨r+1+1,1,none⟩=some (.bool v):=BT.cell 1
  have t2:w2.cell? ⟨r+1+1,2,none⟩=some (.int .u64 hi):=BT.cell 2
  have t3:w2.cell? ⟨r+1+1,3,none⟩=some (.int .u64 lo):=BT.cell 3
  have t4:w2.cell? ⟨r+1+1,4,none⟩=some (.bool v'):=BT.cell 4
  have t5:w2.cell? ⟨r+1+1,5,none⟩=some (.int .u64 hi'):=BT.cell 5
  have t6:w2.cell? ⟨r+1+1,6,none⟩=some (.int .u64 lo'):=BT.cell 6
  have t7:w2.cell? ⟨r+1+1,7,none⟩=some (.int .i64 sp):=BT.cell 7
  have t8:w2.cell? ⟨r+1+1,8,none⟩=some (.int .i64 dp):=BT.cell 8
  clear BL BK BT BLH BKH BTH PK
  go_wp2_with (go_at_call 164;(with_reducible refine (MS.out _ _).mono ?_);rintro e w3 ⟨rfl,hb3⟩)
  go_ret2
  exact ⟨rfl,by rw [← hr];exact A8 hb3 (A8 hb2 hb0)⟩
set_option maxRecDepth 100000 in
set_option maxHeartbeats 4000000 in
theorem Nr (wd:Bool) (sl gn a b:Int) (t:Tup) (ht:tupWf t) (n:Nat) (hn:n<18446744073709551616) (w:World):Calls Tryz.prog 86 #[layV wd sl gn,.agg #[.int .u64 a,.int .u64 b],t.val,.int .u64 (n:Int)] w fun e w'=>e=.returned (.tuple #[.int .i64 (Cs wd sl gn a b t n),.int .u64 (D4 wd sl gn a b t n),.bool (BS wd sl gn a b t n)])∧Below w.heap.size w w':=by
 obtain ⟨h,W,hh,hW,hW2,hcm⟩:=E7 wd sl gn a b t n hn
 obtain ⟨m,hm,hml⟩:∃ m:Nat,cookM wd sl gn a b t n=(m:Int)∧m<18446744073709551616:=⟨_,hcm,Nat.lt_of_lt_of_le (Gb W h n) (I8 W hW2)⟩
 have WD:=Lib.hid fun W=>Hf wd sl gn W
 have MK:=Lib.hid fun k W=>(Ci k W)
 have MS:=Lib.hid fun W=>Ie wd sl gn a b t ht n W
 have UP:=Lib.hid fun W=>Ko wd sl gn m hml W
 have hO:BS wd sl gn a b t n=(Bw wd sl gn n && unpOk wd sl gn m):=by unfold BS;rw [hm,Int.toNat_natCast]
 have hS:Cs wd sl gn a b t n=if Bw wd sl gn n then unpS wd sl gn m else 0:=by unfold Cs;rw [hm,Int.toNat_natCast]
 have hG:D4 wd sl gn a b t n=if Bw wd sl gn n then unpG wd sl gn m else 0:=by unfold D4;rw [hm,Int.toNat_natCast]
 rw [hO,hS,hG]
 rw [hm] at MS
 clear hO hS hG hh hcm hm
 obtain ⟨o1,ho1⟩:∃ o,unpOk wd sl gn m=o:=⟨_,rfl⟩
 obtain ⟨o2,ho2⟩:∃ o,unpS wd sl gn m=o:=⟨_,rfl⟩
 obtain ⟨o3,ho3⟩:∃ o,unpG wd sl gn m=o:=⟨_,rfl⟩
 rw [ho1,ho2,ho3] at UP
 rw [ho1,ho2,ho3]
 clear ho1 ho2 ho3
 obtain ⟨q,hq⟩:∃ q,Bw wd sl gn n=q:=⟨_,rfl⟩
 rw [hq]
 obtain ⟨W3,hW3,hW4,hnar⟩:=Ic wd sl gn n hn
 have hq2:decide (maskI (layW wd sl gn)<(n:Int))=!q:=by rw [hW3,Kn W3 n hW4,← hnar,hq]
 clear hq hW3 hnar
 obtain ⟨lw,hlw⟩:∃ l,layW wd sl gn=l:=⟨_,rfl⟩
 rw [hlw] at WD hq2
 clear hlw hW ht
 have BL:=((Blk.new w 23 #[.bool wd,.int .i64 sl,.int .i64 gn]).alloc (.cells #[.int .u64 a,.int .u64 b] 26)).alloc (.cells t.cells.toArray 47)
 have BK:=(Blk.new (w.alloc (.cells #[.bool wd,.int .i64 sl,.int .i64 gn] 23)) 26 #[.int .u64 a,.int .u64 b]).alloc (.cells t.cells.toArray 47)
 have BT:=Blk.new ((w.alloc (.cells #[.bool wd,.int .i64 sl,.int .i64 gn] 23)).alloc (.cells #[.int .u64 a,.int .u64 b] 26)) 47 t.cells.toArray
 have hb0:Below w.heap.size w (((w.alloc (.cells #[.bool wd,.int .i64 sl,.int .i64 gn] 23)).alloc (.cells #[.int .u64 a,.int .u64 b] 26)).alloc (.cells t.cells.toArray 47)):=bw
 obtain ⟨p,v,hi,lo,v',hi',lo',sp,dp⟩:=t
 go_enter Tryz.func86,Tryz.ntmps86
 go_upto_region 1 with fail
 change Code.wp _ _ _ _ (((w.alloc (.cells #[.bool wd,.int .i64 sl,.int .i64 gn] 23)).alloc (.cells #[.int .u64 a,.int .u64 b] 26)).alloc (.cells (Tup.cells ⟨p,v,hi,lo,v',hi',lo',sp,dp⟩).toArray 47))
 simp only [World.size_alloc] at BK BT
 generalize ((w.alloc (.cells #[.bool wd,.int .i64 sl,.int .i64 gn] 23)).alloc (.cells #[.int .u64 a,.int .u64 b] 26)).alloc (.cells (Tup.cells ⟨p,v,hi,lo,v',hi',lo',sp,dp⟩).toArray 47)=w1 at *
 obtain ⟨r,hr⟩:∃ r,w.heap.size=r:=⟨_,rfl⟩
 rw [hr] at BL BK BT
 try rw [hr]
 have c0:w1.cell? ⟨r,0,none⟩=some (.bool wd):=BL.cell 0
 have c1:w1.cell? ⟨r,1,none⟩=some (.int .i64 sl):=BL.cell 1
 have c2:w1.cell? ⟨r,2,none⟩=some (.int .i64 gn):=BL.cell 2
 have BLH:=Lib.hid BL
 have BKH:=Lib.hid BK
 have BTH:=Lib.hid BT
 clear BL BK BT
 cases q
 ·
  go_wp2_with (first
   | (go_at_call 162;(with_reducible refine (WD.out _).mono ?_);rintro e w2 ⟨rfl,hb2⟩;clear c0 c1 c2)
   | (go_at_call 161;(with_reducible refine (MK.out _ _).mono ?_);rintro e w3 ⟨rfl,rfl⟩))
  refine bodyPost_ret (v:=.tuple #[.int .i64 0,.int .u64 0,.bool false]) (by simp [results,Tryz.results86,go_sem, *]) rfl ?_
  exact ⟨rfl,by rw [← hr];exact A8 hb2 hb0⟩
 ·
  go_upto_region 3 with (first
   | (go_at_call 162;(with_reducible refine (WD.out _).mono ?_);rintro e w2 ⟨rfl,hb2⟩;clear c0 c1 c2)
   | (go_at_call 161;(with_reducible refine (MK.out _ _).mono ?_);rintro e w3 ⟨rfl,rfl⟩))
  have BL:=BLH.out.call hb2
  have BK:=BKH.out.call hb2
  have BT:=BTH.out.call hb2
  have c0:w2.cell? ⟨r,0,none⟩=some (.bool wd):=BL.cell 0
  have c1:w2.cell? ⟨r,1,none⟩=some (.int .i64 sl):=BL.cell 1
  have c2:w2.cell? ⟨r,2,none⟩=some (.int .i64 gn):=BL.cell 2
  have k0:w2.cell? ⟨r+1,0,none⟩=some (.int .u64 a):=BK.cell 0
  have k1:w2.cell? ⟨r+1,1,none⟩=some (.int .u64 b):=BK.cell 1
  have t0:w2.cell? ⟨r+1+1,0,none⟩=some (.int .i64 p):=BT.cell 0
  have t1:w2.cell? ⟨r+1+1,1,none⟩=some (.bool v):=BT.cell 1
  have t2:w2.cell? ⟨r+1+1,2,none⟩=some (.int .u64 hi):=BT.cell 2
  have t3:w2.cell? ⟨r+1+1,3,none⟩=some (.int .u64 lo):=BT.cell 3
  have t4:w2.cell? ⟨r+1+1,4,none⟩=some (.bool v'):=BT.cell 4
  have t5:w2.cell? ⟨r+1+1,5,none⟩=some (.int .u64 hi'):=BT.cell 5
  have t6:w2.cell? ⟨r+1+1,6,none⟩=some (.int .u64 lo'):=BT.cell 6
  have t7:w2.cell? ⟨r+1+1,7,none⟩=some (.int .i64 sp):=BT.cell 7
  have t8:w2.cell? ⟨r+1+1,8,none⟩=some (.int .i64 dp):=BT.cell 8
  have hb02:=A8 hb2 hb0
  clear BL BK BT BLH BKH BTH WD MK hb0 hb2
  have HK:=Lib.hid fun (W W':World) (h:W.cell? ⟨r,0,none⟩=some (.bool wd)∧W.cell? ⟨r,1,none⟩=some (.int .i64 sl)∧W.cell? ⟨r,2,none⟩=some (.int .i64 gn)∧W.cell? ⟨r+1,0,none⟩=some (.int .u64 a)∧W.cell? ⟨r+1,1,none⟩=some (.int .u64 b)∧W.cell? ⟨r+1+1,0,none⟩=some (.int .i64 p)∧W.cell? ⟨r+1+1,1,none⟩=some (.bool v)∧W.cell? ⟨r+1+1,2,none⟩=some (.int .u64 hi)∧W.cell? ⟨r+1+1,3,none⟩=some (.int .u64 lo)∧W.cell? ⟨r+1+1,4,none⟩=some (.bool v')∧W.cell? ⟨r+1+1,5,none⟩=some (.int .u64 hi')∧W.cell? ⟨r+1+1,6,none⟩=some (.int .u64 lo')∧W.cell? ⟨r+1+1,7,none⟩=some (.int .i64 sp)∧W.cell? ⟨r+1+1,8,none⟩=some (.int .i64 dp)) (hb:Below W.heap.size W W')=>show W'.cell? ⟨r,0,none⟩=some (.bool wd)∧W'.cell? ⟨r,1,none⟩=some (.int .i64 sl)∧W'.cell? ⟨r,2,none⟩=some (.int .i64 gn)∧W'.cell? ⟨r+1,0,none⟩=some (.int .u64 a)∧W'.cell? ⟨r+1,1,none⟩=some (.int .u64 b)∧W'.cell? ⟨r+1+1,0,none⟩=some (.int .i64 p)∧W'.cell? ⟨r+1+1,1,none⟩=some (.bool v)∧W'.cell? ⟨r+1+1,2,none⟩=some (.int .u64 hi)∧W'.cell? ⟨r+1+1,3,none⟩=some (.int .u64 lo)∧W'.cell? ⟨r+1+1,4,none⟩=some (.bool v')∧W'.cell? ⟨r+1+1,5,none⟩=some (.int .u64 hi')∧W'.cell? ⟨r+1+1,6,none⟩=some (.int .u64 lo')∧W'.cell? ⟨r+1+1,7,none⟩=some (.int .i64 sp)∧W'.cell? ⟨r+1+1,8,none⟩=some (.int .i64 dp) from by
   obtain ⟨h0,h1,h2,h3,h4,h5,h6,h7,h8,h9,h10,h11,h12,h13⟩:=h
   exact ⟨(hb.cell (A0 h0)).trans h0,(hb.cell (A0 h1)).trans h1,(hb.cell (A0 h2)).trans h2,(hb.cell (A0 h3)).trans h3,(hb.cell (A0 h4)).trans h4,(hb.cell (A0 h5)).trans h5,(hb.cell (A0 h6)).trans h6,(hb.cell (A0 h7)).trans h7,(hb.cell (A0 h8)).trans h8,(hb.cell (A0 h9)).trans h9,(hb.cell (A0 h10)).trans h10,(hb.cell (A0 h11)).trans h11,(hb.cell (A0 h12)).trans h12,(hb.cell (A0 h13)).trans h13⟩
  have hbd:Below w2.heap.size w2 w2.drew:=(Below.refl _ _).drew
  go_region_held3 (fun W=>W.cell? ⟨r,0,none⟩=some (.bool wd)∧W.cell? ⟨r,1,none⟩=some (.int .i64 sl)∧W.cell? ⟨r,2,none⟩=some (.int .i64 gn)∧W.cell? ⟨r+1,0,none⟩=some (.int .u64 a)∧W.cell? ⟨r+1,1,none⟩=some (.int .u64 b)∧W.cell? ⟨r+1+1,0,none⟩=some (.int .i64 p)∧W.cell? ⟨r+1+1,1,none⟩=some (.bool v)∧W.cell? ⟨r+1+1,2,none⟩=some (.int .u64 hi)∧W.cell? ⟨r+1+1,3,none⟩=some (.int .u64 lo)∧W.cell? ⟨r+1+1,4,none⟩=some (.bool v')∧W.cell? ⟨r+1+1,5,none⟩=some (.int .u64 hi')∧W.cell? ⟨r+1+1,6,none⟩=some (.int .u64 lo')∧W.cell? ⟨r+1+1,7,none⟩=some (.int .i64 sp)∧W.cell? ⟨r+1+1,8,none⟩=some (.int .i64 dp)) (first | assumption | (refine ⟨?_,?_,?_,?_,?_,?_,?_,?_,?_,?_,?_,?_,?_,?_⟩ <;> assumption)) (first
   | (go_at_call 164;(with_reducible refine (MS.out _).mono ?_);rintro e w4 ⟨rfl,hb4⟩;have hk4:=HK.out _ _ (by assumption) hb4)
   | (go_at_call 163;(with_reducible refine (UP.out _).mono ?_);rintro e w5 ⟨rfl,hb5⟩;have hk5:=HK.out _ _ (by assumption) hb5))
  clear c0 c1 c2 k0 k1 t0 t1 t2 t3 t4 t5 t6 t7 t8
  go_wp2_with fail
  refine bodyPost_ret (v:=.tuple #[.int .i64 o2,.int .u64 o3,.bool o1]) (by simp [results,Tryz.results86,go_sem, *]) rfl ?_
  exact ⟨rfl,by rw [← hr];exact A8 hb5 (A8 hb4 (A8 hbd hb02))⟩
end Go.Proofs.YteklkljndchjiaaGreat
