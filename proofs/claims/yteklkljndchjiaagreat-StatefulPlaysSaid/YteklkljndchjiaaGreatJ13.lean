/- conn: the reference's functions, Right, Name. -/
import Derived.Test.YteklkljndchjiaaGreatJ7
import Derived.Test.YteklkljndchjiaaGreatJ8
import Derived.Deep.RegionHeld3
namespace Go.Proofs.YteklkljndchjiaaGreat
open Go Go.RowKit Go.Deep
def okT (x:Int):Bool:=decide (1≤x) && decide (x≤1048576)
def Du (a b c d:Int):Bool:=okT a && okT b && okT c && okT d
set_option maxRecDepth 100000 in
theorem JA (a b c d:Int) (w:World):Calls Tryz.prog 77 #[.agg #[.int .i64 a,.int .i64 b,.int .i64 c,.int .i64 d]] w fun e w'=>e=.returned (.bool (Du a b c d))∧Below w.heap.size w w':=by
 have i0:=Dr a b c d 0 (by decide)
 have i1:=Dr a b c d 1 (by decide)
 have i2:=Dr a b c d 2 (by decide)
 have i3:=Dr a b c d 3 (by decide)
 have i4:=Dr a b c d 4 (by decide)
 have i5:=Dr a b c d 5 (by decide)
 have e0:idleS a b c d 0=0:=rfl
 have e1:idleS a b c d 1=a:=rfl
 have e2:idleS a b c d 2=b:=rfl
 have e3:idleS a b c d 3=c:=rfl
 have e4:idleS a b c d 4=0:=rfl
 have e5:idleS a b c d 5=d:=rfl
 rw [e0] at i0
 rw [e1] at i1
 rw [e2] at i2
 rw [e3] at i3
 rw [e4] at i4
 rw [e5] at i5
 clear e0 e1 e2 e3 e4 e5
 go_enter Tryz.func77,Tryz.ntmps77
 go_wp2_with (go_at_call 141;refine (Cz _ _ _ _ _).mono ?_;rintro e w1 ⟨rfl,hb1⟩)
 have hb:Below w.heap.size w w1:=bw
 clear hb1
 refine wp_loop_rounds 7 ?_
 iterate 7 (all_goals (try (rw [rounds_succ]));all_goals (go_wp2_with fail))
 all_goals go_ret
 all_goals refine ⟨Cq ?_,hb⟩
 all_goals (simp [Du,okT];omega)
set_option maxRecDepth 100000 in
theorem G5 (a b c d:Int) (w:World):Calls Tryz.prog 72 #[.agg #[.int .i64 a,.int .i64 b,.int .i64 c,.int .i64 d]] w fun e w'=>e=.returned (.bool (Du a b c d))∧Below w.heap.size w w':=by
 go_enter Tryz.func72,Tryz.ntmps72
 go_wp2_with fail
 refine wp_loop_rounds 5 ?_
 iterate 5 (all_goals (try (rw [rounds_succ]));all_goals (go_wp2_with fail))
 all_goals go_ret
 all_goals refine ⟨Cq ?_,bw⟩
 all_goals (simp [Du,okT];omega)
theorem H7 (a b c d s:Int) (w:World):Calls Tryz.prog 154 #[.agg #[.int .i64 a,.int .i64 b,.int .i64 c,.int .i64 d],.int .i64 s] w fun e w'=>e=.returned (.int .i64 (idleS a b c d s))∧Below w.heap.size w w':=by
 go_enter Tryz.func154,Tryz.ntmps154
 go_wp2_with fail
 all_goals go_ret
 all_goals refine ⟨De ?_,bw⟩
 all_goals simp_all [idleS]
theorem Sh (x:BitVec 64) (i:Nat) (hi:i<64):(x &&& BitVec.twoPow 64 i=BitVec.twoPow 64 i) ↔ x.getLsbD i=true:=by
 rw [BitVec.and_twoPow]
 constructor
 ·
  intro h
  by_cases e:x.getLsbD i=true
  · exact e
  ·
   rw [if_neg e] at h
   have:=congrArg (fun v=>v.getLsbD i) h
   simp [hi] at this
 · intro h;rw [if_pos h]
theorem Oy (b:Int) (s:Nat) (hs:s<9223372036854775808):bits BinOp.and IntKind.i64 b s=((BitVec.ofInt 64 b &&& BitVec.ofNat 64 s).toNat:Int):=by
 show IntKind.i64.wrap ((BitVec.ofInt 64 b &&& BitVec.ofInt 64 (s:Int)).toNat:Int)=_
 rw [BitVec.ofInt_natCast,IntKind.wrap_i64]
 have h:(BitVec.ofInt 64 b &&& BitVec.ofNat 64 s).toNat≤s:=by
  rw [BitVec.toNat_and,BitVec.toNat_ofNat]
  exact Nat.le_trans Nat.and_le_right (Nat.mod_le _ _)
 omega
theorem Ke (b:Int) (i:Nat) (hi:i<63):hasB b ((2 ^ i:Nat):Int)=(BitVec.ofInt 64 b).getLsbD i:=by
 unfold hasB
 have hp:2 ^ i<9223372036854775808:=Nat.lt_of_lt_of_le (Nat.pow_lt_pow_right (by omega) hi) (by decide)
 rw [Oy b _ hp]
 have e:BitVec.ofNat 64 (2 ^ i)=BitVec.twoPow 64 i:=by apply BitVec.eq_of_toNat_eq;rw [BitVec.toNat_twoPow,BitVec.toNat_ofNat]
 rw [e,Bool.eq_iff_iff,← Sh _ i (by omega),beq_iff_eq]
 have ht:(BitVec.twoPow 64 i).toNat=2 ^ i:=by rw [BitVec.toNat_twoPow];exact Nat.mod_eq_of_lt (by omega)
 rw [← BitVec.toNat_inj,ht]
 omega
theorem has16 (b:Int):hasB b 16=(BitVec.ofInt 64 b).getLsbD 4:=Ke b 4 (by omega)
theorem has4 (b:Int):hasB b 4=(BitVec.ofInt 64 b).getLsbD 2:=Ke b 2 (by omega)
theorem has1 (b:Int):hasB b 1=(BitVec.ofInt 64 b).getLsbD 0:=Ke b 0 (by omega)
theorem any21 (b:Int):(bits BinOp.and IntKind.i64 b 21 != 0)=(hasB b 16 || hasB b 4 || hasB b 1):=by
 rw [has16,has4,has1]
 have:=Oy b 21 (by omega)
 rw [show ((21:Nat):Int)=21 from rfl] at this
 rw [this]
 generalize BitVec.ofInt 64 b=v
 have e:BitVec.ofNat 64 21=BitVec.twoPow 64 4 ||| BitVec.twoPow 64 2 ||| BitVec.twoPow 64 0:=by decide
 rw [e,BitVec.and_or_distrib_left,BitVec.and_or_distrib_left,BitVec.and_twoPow,BitVec.and_twoPow,BitVec.and_twoPow]
 cases v.getLsbD 4 <;> cases v.getLsbD 2 <;> cases v.getLsbD 0 <;> decide
theorem Kf (f s:Int) (w:World):Calls Tryz.prog 221 #[.int .i64 f,.int .i64 s] w fun e w'=>e=.returned (.bool (Fp f s))∧w=w':=by
 have e:Fp f s=(f==6 && hasB s 2 && !hasB s 16 && !hasB s 4 && !hasB s 1):=by
  unfold Fp
  rw [any21]
  cases hasB s 16 <;> cases hasB s 4 <;> cases hasB s 1 <;> simp
 replace e:=Lib.hid e
 go_enter Tryz.func221,Tryz.ntmps221
 go_wp2
 all_goals go_ret
 all_goals refine ⟨Cq ?_,rfl⟩
 all_goals rw [e.out]
 all_goals simp [hasB, *]
theorem Kg (f s:Int) (w:World):Calls Tryz.prog 150 #[.int .i64 f,.int .i64 s] w fun e w'=>e=.returned (.int .i64 (BJ f s))∧w=w':=by
 go_enter Tryz.func150,Tryz.ntmps150
 go_wp2_with (go_at_call 221;refine (Kf _ _ _).mono ?_;rintro e w' ⟨rfl,rfl⟩)
 all_goals go_ret
 all_goals refine ⟨De ?_,rfl⟩
 all_goals simp [BJ, *]
theorem Lu (f s:Int) (w:World):Calls Tryz.prog 168 #[.int .i64 f,.int .i64 s] w fun e w'=>e=.returned (.int .i64 (nextS f s))∧w=w':=by
 go_enter Tryz.func168,Tryz.ntmps168
 go_wp2
 all_goals go_ret
 all_goals refine ⟨De ?_,rfl⟩
 all_goals (simp only [nextS,hasB];repeat' split)
 all_goals (try simp_all)
 all_goals (try omega)
end Go.Proofs.YteklkljndchjiaaGreat
