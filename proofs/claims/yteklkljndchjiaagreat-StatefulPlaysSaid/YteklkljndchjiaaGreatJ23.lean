/- part and its reference: may, Of. -/
import Derived.Test.YteklkljndchjiaaGreatJ14
import Derived.Test.YteklkljndchjiaaGreatJ17
import Derived.Test.YteklkljndchjiaaGreatJ21
namespace Go.Proofs.YteklkljndchjiaaGreat
open Go Go.RowKit Go.Deep
def mayB (n:Int):Bool:=decide (1≤n) && decide (n≤16)
def partI (a b:Int) (t:Tup) (n:Int):Int:=if mayB n then D3 (C8 b a ⟨(BW t).toArray⟩) n else 0
theorem Sn (n:Int) (w:World):Calls Tryz.prog 209 #[.int .i64 n] w fun e w'=>e=.returned (.bool (mayB n))∧w=w':=by
 by_cases h:1≤n
 ·
  by_cases h2:n≤16
  ·
   have d1:decide (1≤n)=true:=by simp;omega
   have d2:decide (n≤16)=true:=by simp;omega
   go_enter Tryz.func209,Tryz.ntmps209
   go_wp2_with fail
   go_ret
   exact ⟨by simp [mayB,h,h2],rfl⟩
  ·
   have d1:decide (1≤n)=true:=by simp;omega
   have d2:decide (n≤16)=false:=by simp;omega
   go_enter Tryz.func209,Tryz.ntmps209
   go_wp2_with fail
   go_ret
   exact ⟨by simp [mayB,h2],rfl⟩
 ·
  have d1:decide (1≤n)=false:=by simp;omega
  go_enter Tryz.func209,Tryz.ntmps209
  go_wp2_with fail
  go_ret
  exact ⟨by simp [mayB];omega,rfl⟩
set_option maxRecDepth 100000 in
set_option maxHeartbeats 2000000 in
theorem Sq (a b:Int) (t:Tup) (n:Int) (w:World):Calls Tryz.prog 142 #[.agg #[.int .u64 a,.int .u64 b],t.val,.int .i64 n] w fun e w'=>e=.returned (.int .i64 (partI a b t n))∧Below w.heap.size w w':=by
 have M:=Sn n
 unfold partI
 obtain ⟨o,ho⟩:∃ o,mayB n=o:=⟨_,rfl⟩
 rw [ho] at M ⊢
 replace M:=Lib.hid M
 obtain ⟨p,v,hi,lo,v',hi',lo',sp,dp⟩:=t
 cases o
 ·
  unfold Tup.val
  dsimp only
  go_enter Tryz.func142,Tryz.ntmps142
  go_wp2_with (go_at_call 209;refine (M.out _).mono ?_;rintro e w1 ⟨rfl,rfl⟩)
  go_ret
  exact ⟨rfl,bw⟩
 ·
  obtain ⟨x,hx⟩:∃ x,(⟨(BW ⟨p,v,hi,lo,v',hi',lo',sp,dp⟩).toArray⟩:ByteArray)=x:=⟨_,rfl⟩
  obtain ⟨h,hh,hlt⟩:=Hv b a x
  have T:=JB ⟨p,v,hi,lo,v',hi',lo',sp,dp⟩
  have hxl:x.size≤1000000:=by rw [← hx];have:=Ep ⟨p,v,hi,lo,v',hi',lo',sp,dp⟩;show (BW ⟨p,v,hi,lo,v',hi',lo',sp,dp⟩).toArray.size≤_;simp;omega
  have H:=fun W=>QW b a x W hxl
  have SC:=fun W=>PF h n W hlt
  rw [hx] at T ⊢
  rw [hh] at H ⊢
  clear hx hh hxl
  replace T:=Lib.hid T
  replace H:=Lib.hid H
  replace SC:=Lib.hid SC
  replace hlt:=Lib.hid hlt
  unfold Tup.val at T ⊢
  dsimp only at T ⊢
  go_enter Tryz.func142,Tryz.ntmps142
  go_wp2_with (go_at_call 209;refine (M.out _).mono ?_;rintro e w1 ⟨rfl,rfl⟩)
  have B1:Blk ((w.alloc (.cells #[.int .u64 b,.int .u64 a] 26)).alloc (.cells #[.int .i64 p,.bool v,.int .u64 hi,.int .u64 lo,.bool v',.int .u64 hi',.int .u64 lo',.int .i64 sp,.int .i64 dp] 47)) w.heap.size 26 #[.int .u64 b,.int .u64 a]:=(Blk.new w _ _).alloc _
  have B2:=Blk.new (w.alloc (.cells #[.int .u64 b,.int .u64 a] 26)) 47 #[.int .i64 p,.bool v,.int .u64 hi,.int .u64 lo,.bool v',.int .u64 hi',.int .u64 lo',.int .i64 sp,.int .i64 dp]
  have hbA:Below w.heap.size w ((w.alloc (.cells #[.int .u64 b,.int .u64 a] 26)).alloc (.cells #[.int .i64 p,.bool v,.int .u64 hi,.int .u64 lo,.bool v',.int .u64 hi',.int .u64 lo',.int .i64 sp,.int .i64 dp] 47)):=bw
  simp only [World.size_alloc] at B2
  generalize ((w.alloc (.cells #[.int .u64 b,.int .u64 a] 26)).alloc (.cells #[.int .i64 p,.bool v,.int .u64 hi,.int .u64 lo,.bool v',.int .u64 hi',.int .u64 lo',.int .i64 sp,.int .i64 dp] 47))=w1 at *
  have d0:=B1.cell 0
  have d1:=B1.cell 1
  have c0:=B2.cell 0
  have c1:=B2.cell 1
  have c2:=B2.cell 2
  have c3:=B2.cell 3
  have c4:=B2.cell 4
  have c5:=B2.cell 5
  have c6:=B2.cell 6
  have c7:=B2.cell 7
  have c8:=B2.cell 8
  simp at d0 d1 c0 c1 c2 c3 c4 c5 c6 c7 c8
  clear B1 B2 ho
  go_region_held3 (fun w'=>Below w1.heap.size w1 w'∧w'.cell? ⟨w.heap.size,0,none⟩=some (.int .u64 b)∧w'.cell? ⟨w.heap.size,1,none⟩=some (.int .u64 a)∧w'.cell? ⟨w.heap.size+1,0,none⟩=some (.int .i64 p)∧w'.cell? ⟨w.heap.size+1,1,none⟩=some (.bool v)∧w'.cell? ⟨w.heap.size+1,2,none⟩=some (.int .u64 hi)∧w'.cell? ⟨w.heap.size+1,3,none⟩=some (.int .u64 lo)∧w'.cell? ⟨w.heap.size+1,4,none⟩=some (.bool v')∧w'.cell? ⟨w.heap.size+1,5,none⟩=some (.int .u64 hi')∧w'.cell? ⟨w.heap.size+1,6,none⟩=some (.int .u64 lo')∧w'.cell? ⟨w.heap.size+1,7,none⟩=some (.int .i64 sp)∧w'.cell? ⟨w.heap.size+1,8,none⟩=some (.int .i64 dp)) ((first | assumption | ((refine ⟨?_,?_⟩;(first | assumption | exact (Below.refl _ _).drew | exact Below.refl _ _);go_keep)))) (first
    | (go_at_call 212;with_reducible refine (T.out _).mono ?_;rintro e w2 ⟨rfl,hb2⟩;have hS:=HW (by assumption) hb2)
    | (go_at_call 211;with_reducible refine (H.out _).mono ?_;rintro e w3 ⟨rfl,hb3⟩;have hS:=HW (by assumption) hb3)
    | (go_at_call 210;with_reducible refine (SC.out _).mono ?_;rintro e w4 ⟨rfl,hb4⟩;have hS:=HW (by assumption) hb4))
  all_goals
   go_wp2_with fail
   go_ret
   exact ⟨rfl,A8 (by exact hS.1) hbA⟩
set_option maxRecDepth 100000 in
set_option maxHeartbeats 2000000 in
theorem Nl (a b:Int) (t:Tup) (n:Int) (w:World) (x1:t.hi<18446744073709551616) (x2:t.lo<18446744073709551616) (x3:t.hi'<18446744073709551616) (x4:t.lo'<18446744073709551616):Calls Tryz.prog 149 #[.agg #[.int .u64 a,.int .u64 b],t.val,.int .i64 n] w fun e w'=>e=.returned (.int .i64 (partI a b t n))∧Below w.heap.size w w':=by
 unfold partI
 obtain ⟨o,ho⟩:∃ o,mayB n=o:=⟨_,rfl⟩
 rw [ho]
 obtain ⟨p,v,hi,lo,v',hi',lo',sp,dp⟩:=t
 cases o
 ·
  unfold Tup.val
  dsimp only
  by_cases h1:1≤n
  ·
   have h2:¬ n≤16:=by intro h2;simp [mayB,h1,h2] at ho
   have d1:decide (n<1)=false:=by simp;omega
   have d2:decide (16<n)=true:=by simp;omega
   go_enter Tryz.func149,Tryz.ntmps149
   go_wp2_with fail
   go_ret
   exact ⟨rfl,bw⟩
  ·
   have d1:decide (n<1)=true:=by simp;omega
   go_enter Tryz.func149,Tryz.ntmps149
   go_wp2_with fail
   go_ret
   exact ⟨rfl,bw⟩
 ·
  obtain ⟨x,hx⟩:∃ x,(⟨(BW ⟨p,v,hi,lo,v',hi',lo',sp,dp⟩).toArray⟩:ByteArray)=x:=⟨_,rfl⟩
  obtain ⟨h,hh,hlt⟩:=Hv b a x
  have T:=fun W=>G6 ⟨p,v,hi,lo,v',hi',lo',sp,dp⟩ W x1 x2 x3 x4
  have hxl:x.size≤1000000:=by rw [← hx];have:=Ep ⟨p,v,hi,lo,v',hi',lo',sp,dp⟩;show (BW ⟨p,v,hi,lo,v',hi',lo',sp,dp⟩).toArray.size≤_;simp;omega
  have H:=fun W=>Hb b a x W hxl
  have SC:=fun W=>Kk h n W hlt
  rw [hx] at T ⊢
  rw [hh] at H ⊢
  clear hx hh hxl x1 x2 x3 x4
  replace T:=Lib.hid T
  replace H:=Lib.hid H
  replace SC:=Lib.hid SC
  replace hlt:=Lib.hid hlt
  unfold Tup.val at T ⊢
  dsimp only at T ⊢
  have b1:1≤n∧n≤16:=by simpa [mayB] using ho
  have d1:decide (n<1)=false:=by simp;omega
  have d2:decide (16<n)=false:=by simp;omega
  clear b1
  go_enter Tryz.func149,Tryz.ntmps149
  go_wp2_with fail
  clear d1 d2
  have B1:Blk ((w.alloc (.cells #[.int .u64 a,.int .u64 b] 26)).alloc (.cells #[.int .i64 p,.bool v,.int .u64 hi,.int .u64 lo,.bool v',.int .u64 hi',.int .u64 lo',.int .i64 sp,.int .i64 dp] 47)) w.heap.size 26 #[.int .u64 a,.int .u64 b]:=(Blk.new w _ _).alloc _
  have B2:=Blk.new (w.alloc (.cells #[.int .u64 a,.int .u64 b] 26)) 47 #[.int .i64 p,.bool v,.int .u64 hi,.int .u64 lo,.bool v',.int .u64 hi',.int .u64 lo',.int .i64 sp,.int .i64 dp]
  have hbA:Below w.heap.size w ((w.alloc (.cells #[.int .u64 a,.int .u64 b] 26)).alloc (.cells #[.int .i64 p,.bool v,.int .u64 hi,.int .u64 lo,.bool v',.int .u64 hi',.int .u64 lo',.int .i64 sp,.int .i64 dp] 47)):=bw
  simp only [World.size_alloc] at B2
  generalize ((w.alloc (.cells #[.int .u64 a,.int .u64 b] 26)).alloc (.cells #[.int .i64 p,.bool v,.int .u64 hi,.int .u64 lo,.bool v',.int .u64 hi',.int .u64 lo',.int .i64 sp,.int .i64 dp] 47))=w1 at *
  have d0:=B1.cell 0
  have d1:=B1.cell 1
  have c0:=B2.cell 0
  have c1:=B2.cell 1
  have c2:=B2.cell 2
  have c3:=B2.cell 3
  have c4:=B2.cell 4
  have c5:=B2.cell 5
  have c6:=B2.cell 6
  have c7:=B2.cell 7
  have c8:=B2.cell 8
  simp at d0 d1 c0 c1 c2 c3 c4 c5 c6 c7 c8
  clear B1 B2 ho
  go_region_held3 (fun w'=>Below w1.heap.size w1 w'∧w'.cell? ⟨w.heap.size,0,none⟩=some (.int .u64 a)∧w'.cell? ⟨w.heap.size,1,none⟩=some (.int .u64 b)∧w'.cell? ⟨w.heap.size+1,0,none⟩=some (.int .i64 p)∧w'.cell? ⟨w.heap.size+1,1,none⟩=some (.bool v)∧w'.cell? ⟨w.heap.size+1,2,none⟩=some (.int .u64 hi)∧w'.cell? ⟨w.heap.size+1,3,none⟩=some (.int .u64 lo)∧w'.cell? ⟨w.heap.size+1,4,none⟩=some (.bool v')∧w'.cell? ⟨w.heap.size+1,5,none⟩=some (.int .u64 hi')∧w'.cell? ⟨w.heap.size+1,6,none⟩=some (.int .u64 lo')∧w'.cell? ⟨w.heap.size+1,7,none⟩=some (.int .i64 sp)∧w'.cell? ⟨w.heap.size+1,8,none⟩=some (.int .i64 dp)) ((first | assumption | ((refine ⟨?_,?_⟩;(first | assumption | exact (Below.refl _ _).drew | exact Below.refl _ _);go_keep)))) (first
    | (go_at_call 220;with_reducible refine (T.out _).mono ?_;rintro e w2 ⟨rfl,hb2⟩;have hS:=HW (by assumption) hb2)
    | (go_at_call 219;with_reducible refine (H.out _).mono ?_;rintro e w3 ⟨rfl,hb3⟩;have hS:=HW (by assumption) hb3)
    | (go_at_call 218;with_reducible refine (SC.out _).mono ?_;rintro e w4 ⟨rfl,rfl⟩))
  all_goals
   go_wp2_with fail
   go_ret
   exact ⟨rfl,A8 (by exact hS.1) hbA⟩
end Go.Proofs.YteklkljndchjiaaGreat
