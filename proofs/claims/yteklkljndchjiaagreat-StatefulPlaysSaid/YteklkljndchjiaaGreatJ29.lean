/- table: goes. table: how what is told of a table goes on; Close. table: Touch. table: Open. table: Find. table: Go. table: all, Live, Drop. table: Drop. -/
import Derived.Test.YteklkljndchjiaaGreatJ28
import Derived.Laws.StructEq
namespace Go.Proofs.YteklkljndchjiaaGreat
open Go Go.RowKit Go.Deep Go.Maps Go.ChangeMaps
abbrev Slt.val (s:Slt):Value:=.agg #[.int .i64 s.t.p,.bool s.t.v,.int .u64 s.t.hi,.int .u64 s.t.lo,.bool s.t.v',.int .u64 s.t.hi',.int .u64 s.t.lo',.int .i64 s.t.sp,.int .i64 s.t.dp,.int .i64 s.bk,.int .i64 s.st,.int .i64 s.sl,.int .u64 s.gen,.int .i64 s.due]
def tup0:Tup:=⟨0,false,0,0,false,0,0,0,0⟩
def clrS (s:Slt):Slt:=⟨tup0,0,0,s.sl,IntKind.u64.wrap (s.gen+1),0,false⟩
section
variable {w w':World} {g sb n:Nat} {c:TCfg} {s:TSt} {X F:Nat→Prop}
theorem Slots.setAll {E:Nat→Slt} (h:Slots w sb n E) {i:Nat} (hi:i<n) (t:Slt):Slots (((((((((((((((w.setCell ⟨sb,i * 15,none⟩ (.int .i64 t.t.p)).setCell ⟨sb,i * 15+1,none⟩ (.bool t.t.v)).setCell ⟨sb,i * 15+2,none⟩ (.int .u64 ((t.t.hi:Nat):Int))).setCell ⟨sb,i * 15+3,none⟩ (.int .u64 ((t.t.lo:Nat):Int))).setCell ⟨sb,i * 15+4,none⟩ (.bool t.t.v')).setCell ⟨sb,i * 15+5,none⟩ (.int .u64 ((t.t.hi':Nat):Int))).setCell ⟨sb,i * 15+6,none⟩ (.int .u64 ((t.t.lo':Nat):Int))).setCell ⟨sb,i * 15+7,none⟩ (.int .i64 t.t.sp)).setCell ⟨sb,i * 15+8,none⟩ (.int .i64 t.t.dp)).setCell ⟨sb,i * 15+9,none⟩ (.int .i64 t.bk)).setCell ⟨sb,i * 15+10,none⟩ (.int .i64 t.st)).setCell ⟨sb,i * 15+11,none⟩ (.int .i64 t.sl)).setCell ⟨sb,i * 15+12,none⟩ (.int .u64 t.gen)).setCell ⟨sb,i * 15+13,none⟩ (.int .i64 t.due)).setCell ⟨sb,i * 15+14,none⟩ (.bool t.used)) sb n (updE E i t):=by
 have h0:=h.set hi 0 (by omega) (.int .i64 t.t.p) ⟨⟨t.t.p,(E i).t.v,(E i).t.hi,(E i).t.lo,(E i).t.v',(E i).t.hi',(E i).t.lo',(E i).t.sp,(E i).t.dp⟩,(E i).bk,(E i).st,(E i).sl,(E i).gen,(E i).due,(E i).used⟩ rfl
 have h1:=h0.set hi 1 (by omega) (.bool t.t.v) ⟨⟨t.t.p,t.t.v,(E i).t.hi,(E i).t.lo,(E i).t.v',(E i).t.hi',(E i).t.lo',(E i).t.sp,(E i).t.dp⟩,(E i).bk,(E i).st,(E i).sl,(E i).gen,(E i).due,(E i).used⟩ (by simp only [Ad];rfl)
 rw [Az] at h1
 have h2:=h1.set hi 2 (by omega) (.int .u64 ((t.t.hi:Nat):Int)) ⟨⟨t.t.p,t.t.v,t.t.hi,(E i).t.lo,(E i).t.v',(E i).t.hi',(E i).t.lo',(E i).t.sp,(E i).t.dp⟩,(E i).bk,(E i).st,(E i).sl,(E i).gen,(E i).due,(E i).used⟩ (by simp only [Ad];rfl)
 rw [Az] at h2
 have h3:=h2.set hi 3 (by omega) (.int .u64 ((t.t.lo:Nat):Int)) ⟨⟨t.t.p,t.t.v,t.t.hi,t.t.lo,(E i).t.v',(E i).t.hi',(E i).t.lo',(E i).t.sp,(E i).t.dp⟩,(E i).bk,(E i).st,(E i).sl,(E i).gen,(E i).due,(E i).used⟩ (by simp only [Ad];rfl)
 rw [Az] at h3
 have h4:=h3.set hi 4 (by omega) (.bool t.t.v') ⟨⟨t.t.p,t.t.v,t.t.hi,t.t.lo,t.t.v',(E i).t.hi',(E i).t.lo',(E i).t.sp,(E i).t.dp⟩,(E i).bk,(E i).st,(E i).sl,(E i).gen,(E i).due,(E i).used⟩ (by simp only [Ad];rfl)
 rw [Az] at h4
 have h5:=h4.set hi 5 (by omega) (.int .u64 ((t.t.hi':Nat):Int)) ⟨⟨t.t.p,t.t.v,t.t.hi,t.t.lo,t.t.v',t.t.hi',(E i).t.lo',(E i).t.sp,(E i).t.dp⟩,(E i).bk,(E i).st,(E i).sl,(E i).gen,(E i).due,(E i).used⟩ (by simp only [Ad];rfl)
 rw [Az] at h5
 have h6:=h5.set hi 6 (by omega) (.int .u64 ((t.t.lo':Nat):Int)) ⟨⟨t.t.p,t.t.v,t.t.hi,t.t.lo,t.t.v',t.t.hi',t.t.lo',(E i).t.sp,(E i).t.dp⟩,(E i).bk,(E i).st,(E i).sl,(E i).gen,(E i).due,(E i).used⟩ (by simp only [Ad];rfl)
 rw [Az] at h6
 have h7:=h6.set hi 7 (by omega) (.int .i64 t.t.sp) ⟨⟨t.t.p,t.t.v,t.t.hi,t.t.lo,t.t.v',t.t.hi',t.t.lo',t.t.sp,(E i).t.dp⟩,(E i).bk,(E i).st,(E i).sl,(E i).gen,(E i).due,(E i).used⟩ (by simp only [Ad];rfl)
 rw [Az] at h7
 have h8:=h7.set hi 8 (by omega) (.int .i64 t.t.dp) ⟨⟨t.t.p,t.t.v,t.t.hi,t.t.lo,t.t.v',t.t.hi',t.t.lo',t.t.sp,t.t.dp⟩,(E i).bk,(E i).st,(E i).sl,(E i).gen,(E i).due,(E i).used⟩ (by simp only [Ad];rfl)
 rw [Az] at h8
 have h9:=h8.set hi 9 (by omega) (.int .i64 t.bk) ⟨⟨t.t.p,t.t.v,t.t.hi,t.t.lo,t.t.v',t.t.hi',t.t.lo',t.t.sp,t.t.dp⟩,t.bk,(E i).st,(E i).sl,(E i).gen,(E i).due,(E i).used⟩ (by simp only [Ad];rfl)
 rw [Az] at h9
 have h10:=h9.set hi 10 (by omega) (.int .i64 t.st) ⟨⟨t.t.p,t.t.v,t.t.hi,t.t.lo,t.t.v',t.t.hi',t.t.lo',t.t.sp,t.t.dp⟩,t.bk,t.st,(E i).sl,(E i).gen,(E i).due,(E i).used⟩ (by simp only [Ad];rfl)
 rw [Az] at h10
 have h11:=h10.set hi 11 (by omega) (.int .i64 t.sl) ⟨⟨t.t.p,t.t.v,t.t.hi,t.t.lo,t.t.v',t.t.hi',t.t.lo',t.t.sp,t.t.dp⟩,t.bk,t.st,t.sl,(E i).gen,(E i).due,(E i).used⟩ (by simp only [Ad];rfl)
 rw [Az] at h11
 have h12:=h11.set hi 12 (by omega) (.int .u64 t.gen) ⟨⟨t.t.p,t.t.v,t.t.hi,t.t.lo,t.t.v',t.t.hi',t.t.lo',t.t.sp,t.t.dp⟩,t.bk,t.st,t.sl,t.gen,(E i).due,(E i).used⟩ (by simp only [Ad];rfl)
 rw [Az] at h12
 have h13:=h12.set hi 13 (by omega) (.int .i64 t.due) ⟨⟨t.t.p,t.t.v,t.t.hi,t.t.lo,t.t.v',t.t.hi',t.t.lo',t.t.sp,t.t.dp⟩,t.bk,t.st,t.sl,t.gen,t.due,(E i).used⟩ (by simp only [Ad];rfl)
 rw [Az] at h13
 have h14:=h13.set hi 14 (by omega) (.bool t.used) ⟨⟨t.t.p,t.t.v,t.t.hi,t.t.lo,t.t.v',t.t.hi',t.t.lo',t.t.sp,t.t.dp⟩,t.bk,t.st,t.sl,t.gen,t.due,t.used⟩ (by simp only [Ad];rfl)
 rw [Az] at h14
 exact h14
theorem TabP.setAll (h:TabP w g sb n c s X) {i:Nat} (hi:i<n) (t:Slt):TabP (((((((((((((((w.setCell ⟨sb,i * 15,none⟩ (.int .i64 t.t.p)).setCell ⟨sb,i * 15+1,none⟩ (.bool t.t.v)).setCell ⟨sb,i * 15+2,none⟩ (.int .u64 ((t.t.hi:Nat):Int))).setCell ⟨sb,i * 15+3,none⟩ (.int .u64 ((t.t.lo:Nat):Int))).setCell ⟨sb,i * 15+4,none⟩ (.bool t.t.v')).setCell ⟨sb,i * 15+5,none⟩ (.int .u64 ((t.t.hi':Nat):Int))).setCell ⟨sb,i * 15+6,none⟩ (.int .u64 ((t.t.lo':Nat):Int))).setCell ⟨sb,i * 15+7,none⟩ (.int .i64 t.t.sp)).setCell ⟨sb,i * 15+8,none⟩ (.int .i64 t.t.dp)).setCell ⟨sb,i * 15+9,none⟩ (.int .i64 t.bk)).setCell ⟨sb,i * 15+10,none⟩ (.int .i64 t.st)).setCell ⟨sb,i * 15+11,none⟩ (.int .i64 t.sl)).setCell ⟨sb,i * 15+12,none⟩ (.int .u64 t.gen)).setCell ⟨sb,i * 15+13,none⟩ (.int .i64 t.due)).setCell ⟨sb,i * 15+14,none⟩ (.bool t.used)) g sb n c { s with E:=updE s.E i t } X∧Chg (·=sb) w (((((((((((((((w.setCell ⟨sb,i * 15,none⟩ (.int .i64 t.t.p)).setCell ⟨sb,i * 15+1,none⟩ (.bool t.t.v)).setCell ⟨sb,i * 15+2,none⟩ (.int .u64 ((t.t.hi:Nat):Int))).setCell ⟨sb,i * 15+3,none⟩ (.int .u64 ((t.t.lo:Nat):Int))).setCell ⟨sb,i * 15+4,none⟩ (.bool t.t.v')).setCell ⟨sb,i * 15+5,none⟩ (.int .u64 ((t.t.hi':Nat):Int))).setCell ⟨sb,i * 15+6,none⟩ (.int .u64 ((t.t.lo':Nat):Int))).setCell ⟨sb,i * 15+7,none⟩ (.int .i64 t.t.sp)).setCell ⟨sb,i * 15+8,none⟩ (.int .i64 t.t.dp)).setCell ⟨sb,i * 15+9,none⟩ (.int .i64 t.bk)).setCell ⟨sb,i * 15+10,none⟩ (.int .i64 t.st)).setCell ⟨sb,i * 15+11,none⟩ (.int .i64 t.sl)).setCell ⟨sb,i * 15+12,none⟩ (.int .u64 t.gen)).setCell ⟨sb,i * 15+13,none⟩ (.int .i64 t.due)).setCell ⟨sb,i * 15+14,none⟩ (.bool t.used)):=by
 have k:Chg (·=sb) w (((((((((((((((w.setCell ⟨sb,i * 15,none⟩ (.int .i64 t.t.p)).setCell ⟨sb,i * 15+1,none⟩ (.bool t.t.v)).setCell ⟨sb,i * 15+2,none⟩ (.int .u64 ((t.t.hi:Nat):Int))).setCell ⟨sb,i * 15+3,none⟩ (.int .u64 ((t.t.lo:Nat):Int))).setCell ⟨sb,i * 15+4,none⟩ (.bool t.t.v')).setCell ⟨sb,i * 15+5,none⟩ (.int .u64 ((t.t.hi':Nat):Int))).setCell ⟨sb,i * 15+6,none⟩ (.int .u64 ((t.t.lo':Nat):Int))).setCell ⟨sb,i * 15+7,none⟩ (.int .i64 t.t.sp)).setCell ⟨sb,i * 15+8,none⟩ (.int .i64 t.t.dp)).setCell ⟨sb,i * 15+9,none⟩ (.int .i64 t.bk)).setCell ⟨sb,i * 15+10,none⟩ (.int .i64 t.st)).setCell ⟨sb,i * 15+11,none⟩ (.int .i64 t.sl)).setCell ⟨sb,i * 15+12,none⟩ (.int .u64 t.gen)).setCell ⟨sb,i * 15+13,none⟩ (.int .i64 t.due)).setCell ⟨sb,i * 15+14,none⟩ (.bool t.used)):=by
  exact Chg.setCell (F:=(·=sb)) (p:=⟨sb,i * 15+14,none⟩) (Chg.setCell (F:=(·=sb)) (p:=⟨sb,i * 15+13,none⟩) (Chg.setCell (F:=(·=sb)) (p:=⟨sb,i * 15+12,none⟩) (Chg.setCell (F:=(·=sb)) (p:=⟨sb,i * 15+11,none⟩) (Chg.setCell (F:=(·=sb)) (p:=⟨sb,i * 15+10,none⟩) (Chg.setCell (F:=(·=sb)) (p:=⟨sb,i * 15+9,none⟩) (Chg.setCell (F:=(·=sb)) (p:=⟨sb,i * 15+8,none⟩) (Chg.setCell (F:=(·=sb)) (p:=⟨sb,i * 15+7,none⟩) (Chg.setCell (F:=(·=sb)) (p:=⟨sb,i * 15+6,none⟩) (Chg.setCell (F:=(·=sb)) (p:=⟨sb,i * 15+5,none⟩) (Chg.setCell (F:=(·=sb)) (p:=⟨sb,i * 15+4,none⟩) (Chg.setCell (F:=(·=sb)) (p:=⟨sb,i * 15+3,none⟩) (Chg.setCell (F:=(·=sb)) (p:=⟨sb,i * 15+2,none⟩) (Chg.setCell (F:=(·=sb)) (p:=⟨sb,i * 15+1,none⟩) (Chg.setCell (F:=(·=sb)) (p:=⟨sb,i * 15,none⟩) (Chg.refl _ _) (fun _=>rfl) _) (fun _=>rfl) _) (fun _=>rfl) _) (fun _=>rfl) _) (fun _=>rfl) _) (fun _=>rfl) _) (fun _=>rfl) _) (fun _=>rfl) _) (fun _=>rfl) _) (fun _=>rfl) _) (fun _=>rfl) _) (fun _=>rfl) _) (fun _=>rfl) _) (fun _=>rfl) _) (fun _=>rfl) _
 obtain ⟨fs,wg,F',Y,h1,h2,h3,h4,h5,h6,h7,h8,h9⟩:=h
 exact ⟨⟨fs,wg,F',Y,h1.chg k h8,h2.chg k (fun b hb e=>(h7 b (.inl hb)).2 e),h3.chg k (fun b hb e=>(h7 b (.inr hb)).2 e),h4.setAll hi t,h5,h6,h7,h8,h9⟩,k⟩
set_option maxRecDepth 100000 in
set_option maxHeartbeats 4000000 in
theorem Rf (h:TabP w g sb n c s X) (i:Nat) (hi:i<n) (hsl:(s.E i).sl=i) :
  Calls Tryz.prog 167 #[.pointer (some ⟨g,0,none⟩),.pointer (some ⟨sb,i * 15,none⟩)] w fun e w'=>e=.returned (s.E i).val ∧
   ∃ X',TabP w' g sb n c { s with E:=updE s.E i (clrS (s.E i)),M:=lmDel s.M i,L:=pushL n s.L i } X'∧Chg X w w'∧∀ b,X' b→X b∨w.heap.size≤b:=by
 have hC:=Lib.hid fun W (hb:Below w.heap.size w W) (j:Nat) (hj:j<15)=>(h.call hb).slot hi j hj
 obtain ⟨r1,r2,hn⟩:=h.rng
 obtain ⟨sl,hslE⟩:∃ sl,s.E i=sl:=⟨_,rfl⟩
 rw [hslE] at hC hsl ⊢
 replace h:=Lib.hid h
 have hb1:Below w.heap.size w (w.alloc (.cells #[.int .i64 0,.bool false,.int .u64 0,.int .u64 0,.bool false,.int .u64 0,.int .u64 0,.int .i64 0,.int .i64 0,.int .i64 0,.int .i64 0,.int .i64 0,.int .u64 0,.int .i64 0] 52)):=Aa (Below.refl _ _) _
 have B1:=Blk.new w 52 #[.int .i64 0,.bool false,.int .u64 0,.int .u64 0,.bool false,.int .u64 0,.int .u64 0,.int .i64 0,.int .i64 0,.int .i64 0,.int .i64 0,.int .i64 0,.int .u64 0,.int .i64 0]
 go_enter Tryz.func167,Tryz.ntmps167
 go_upto_region 1 with fail
 obtain ⟨r,hr⟩:∃ r,w.heap.size=r:=⟨_,rfl⟩
 rw [hr] at B1
 generalize w.alloc (.cells #[.int .i64 0,.bool false,.int .u64 0,.int .u64 0,.bool false,.int .u64 0,.int .u64 0,.int .i64 0,.int .i64 0,.int .i64 0,.int .i64 0,.int .i64 0,.int .u64 0,.int .i64 0] 52)=w1 at *
 have c0:=(hC.out _ hb1 0 (by omega)).trans rfl
 have c1:=(hC.out _ hb1 1 (by omega)).trans rfl
 have c2:=(hC.out _ hb1 2 (by omega)).trans rfl
 have c3:=(hC.out _ hb1 3 (by omega)).trans rfl
 have c4:=(hC.out _ hb1 4 (by omega)).trans rfl
 have c5:=(hC.out _ hb1 5 (by omega)).trans rfl
 have c6:=(hC.out _ hb1 6 (by omega)).trans rfl
 have c7:=(hC.out _ hb1 7 (by omega)).trans rfl
 have c8:=(hC.out _ hb1 8 (by omega)).trans rfl
 have c9:=(hC.out _ hb1 9 (by omega)).trans rfl
 have c10:=(hC.out _ hb1 10 (by omega)).trans rfl
 have c11:=(hC.out _ hb1 11 (by omega)).trans rfl
 have c12:=(hC.out _ hb1 12 (by omega)).trans rfl
 have c13:=(hC.out _ hb1 13 (by omega)).trans rfl
 simp at c0 c1 c2 c3 c4 c5 c6 c7 c8 c9 c10 c11 c12 c13
 try rw [hr]
 go_upto_region 2 with fail
 have hb2:Below w.heap.size w (w1.alloc (.cells #[.int .i64 sl.t.p,.bool sl.t.v,.int .u64 sl.t.hi,.int .u64 sl.t.lo,.bool sl.t.v',.int .u64 sl.t.hi',.int .u64 sl.t.lo',.int .i64 sl.t.sp,.int .i64 sl.t.dp,.int .i64 sl.bk,.int .i64 sl.st,.int .i64 (i:Int),.int .u64 sl.gen,.int .i64 sl.due] 52)):=Aa hb1 _
 have B2:=Blk.new w1 52 #[.int .i64 sl.t.p,.bool sl.t.v,.int .u64 sl.t.hi,.int .u64 sl.t.lo,.bool sl.t.v',.int .u64 sl.t.hi',.int .u64 sl.t.lo',.int .i64 sl.t.sp,.int .i64 sl.t.dp,.int .i64 sl.bk,.int .i64 sl.st,.int .i64 (i:Int),.int .u64 sl.gen,.int .i64 sl.due]
 have B1':=B1.alloc (.cells #[.int .i64 sl.t.p,.bool sl.t.v,.int .u64 sl.t.hi,.int .u64 sl.t.lo,.bool sl.t.v',.int .u64 sl.t.hi',.int .u64 sl.t.lo',.int .i64 sl.t.sp,.int .i64 sl.t.dp,.int .i64 sl.bk,.int .i64 sl.st,.int .i64 (i:Int),.int .u64 sl.gen,.int .i64 sl.due] 52)
 have hrq:r≠w1.heap.size:=by have:=B1.lt;omega
 have hrw:w.heap.size≤r:=by omega
 have hqw:w.heap.size≤w1.heap.size:=hb1.size
 generalize w1.alloc (.cells #[.int .i64 sl.t.p,.bool sl.t.v,.int .u64 sl.t.hi,.int .u64 sl.t.lo,.bool sl.t.v',.int .u64 sl.t.hi',.int .u64 sl.t.lo',.int .i64 sl.t.sp,.int .i64 sl.t.dp,.int .i64 sl.bk,.int .i64 sl.st,.int .i64 (i:Int),.int .u64 sl.gen,.int .i64 sl.due] 52)=w2 at *
 generalize w1.heap.size=q at *
 clear c0 c1 c2 c3 c4 c5 c6 c7 c8 c9 c10 c11 c12 c13 B1
 have hXlt:∀ b,X b→b<w.heap.size:=fun b hb=>h.out.lt hb
 have hsbX:X sb:=by
  obtain ⟨_,_,_,_,_,_,_,_,h5,_⟩:=h.out
  exact (h5 _).2 (.inr (.inl rfl))
 have hsbw:=hXlt _ hsbX
 have hr2:=B1'.lt
 have hq2:=B2.lt
 have hz2:=hb2.size
 have hT2:=h.out.call (hb2.drew)
 have c11:=(hC.out _ hb2.drew 11 (by omega)).trans rfl
 simp at c11
 rw [hsl] at c11
 obtain ⟨wg,c5,fs,F2,Y2,-,-,hW,hYn,-,hput,-⟩:=hT2.wheel
 have UN:=Lib.hid (Ku hW i (by omega))
 have hK:=Lib.hid fun W (k:Chg Y2 w2.drew W)=>show W.cell? ⟨g,5,none⟩=some (.pointer (some ⟨wg,0,none⟩))∧W.cell? ⟨sb,i * 15+11,none⟩=some (.int .i64 (i:Int)) from
  ⟨(Af k (A0 c5) (fun e=>(hYn _ e).1 rfl)).trans c5,(Af k (A0 c11) (fun e=>(hYn _ e).2 rfl)).trans c11⟩
 replace hput:=Lib.hid hput
 clear hW hT2 hYn
 replace B1':=Lib.hid B1'
 replace B2:=Lib.hid B2
 go_region_held3 (fun W=>W.cell? ⟨g,5,none⟩=some (.pointer (some ⟨wg,0,none⟩))∧W.cell? ⟨sb,i * 15+11,none⟩=some (.int .i64 (i:Int))) ((first | assumption | ((refine ⟨?_,?_⟩;(first | assumption | exact (Below.refl _ _).drew | exact Below.refl _ _);go_keep)))) (first
  | (go_at_call 228;(with_reducible refine UN.out.mono ?_);rintro e w3 ⟨rfl,hW3,hcY⟩;have hS3:=hK.out _ hcY))
 all_goals
  obtain ⟨X3,hT3,hc3,hX3⟩:=hput.out _ _ _ _ hW3 hcY (fun b hb=>.inl hb)
  have B1a:=B1'.out.chg (w1:=w3) hc3 (fun e=>by have:=hXlt _ e;omega)
  have B2a:=B2.out.chg (w1:=w3) hc3 (fun e=>by have:=hXlt _ e;omega)
  clear hput hK UN hcY hW3 hS3 c5 c11
  have hz3:=hc3.size
  have hT3d:=hT3.call (Below.refl _ _).drew
  have c11:=(hT3d.slot hi 11 (by omega)).trans rfl
  simp [hslE,hsl] at c11
  obtain ⟨wg3,-,fs3,F3,Y3,c4,hP,-,-,hFn,-,hput⟩:=hT3d.wheel
  have PU:=Lib.hid (QM _ _ _ _ (i:Int) _ hP)
  have hK:=Lib.hid fun W (k:Chg F3 w3.drew W)=>show W.cell? ⟨g,4,none⟩=some (.pointer (some ⟨fs3,0,none⟩))∧W.cell? ⟨sb,i * 15+11,none⟩=some (.int .i64 (i:Int)) from
   ⟨(Af k (A0 c4) (fun e=>(hFn _ e).1 rfl)).trans c4,(Af k (A0 c11) (fun e=>(hFn _ e).2 rfl)).trans c11⟩
  replace hput:=Lib.hid hput
  clear hP hT3d hT3 hFn
  replace B1a:=Lib.hid B1a
  replace B2a:=Lib.hid B2a
  go_wp2_with fail
  go_region_held3 (fun W=>W.cell? ⟨g,4,none⟩=some (.pointer (some ⟨fs3,0,none⟩))∧W.cell? ⟨sb,i * 15+11,none⟩=some (.int .i64 (i:Int))) ((first | assumption | ((refine ⟨?_,?_⟩;(first | assumption | exact (Below.refl _ _).drew | exact Below.refl _ _);go_keep)))) (first
   | (go_at_call 207;(with_reducible refine PU.out.mono ?_);rintro e w4 ⟨rfl,F4,hP4,hcF,hF4⟩;have hS4:=hK.out _ hcF))
  all_goals
   obtain ⟨X4,hT4,hc4,hX4⟩:=hput.out _ _ _ hP4 hcF hF4
   have hX3n:∀ b,X3 b→b≠r∧b≠q:=fun b hb=>by
    rcases hX3 b hb with hb | hb
    ·
     have:=hXlt _ hb
     omega
    ·
     have hb:w2.heap.size≤b:=hb
     omega
   have hX4n:∀ b,X4 b→b≠r∧b≠q:=fun b hb=>by
    rcases hX4 b hb with hb | hb
    · exact hX3n b hb
    ·
     have hb:w3.heap.size≤b:=hb
     have hz3':w2.heap.size≤w3.heap.size:=hz3
     omega
   have B1b:=B1a.out.chg (w1:=w4) hc4 (fun e=>by have:=hX3n _ e;omega)
   have B2b:=B2a.out.chg (w1:=w4) hc4 (fun e=>by have:=hX3n _ e;omega)
   clear hput hK PU hcF hP4 hS4 c4 c11
   have q11:=(B2b.cell 11).trans rfl
   have q12:=(B2b.cell 12).trans rfl
   have c0:=(hT4.slot hi 0 (by omega)).trans rfl
   have f0:=hT4.slotf (i * 15+0)
   have c1:=(hT4.slot hi 1 (by omega)).trans rfl
   have f1:=hT4.slotf (i * 15+1)
   have c2:=(hT4.slot hi 2 (by omega)).trans rfl
   have f2:=hT4.slotf (i * 15+2)
   have c3:=(hT4.slot hi 3 (by omega)).trans rfl
   have f3:=hT4.slotf (i * 15+3)
   have c4:=(hT4.slot hi 4 (by omega)).trans rfl
   have f4:=hT4.slotf (i * 15+4)
   have c5:=(hT4.slot hi 5 (by omega)).trans rfl
   have f5:=hT4.slotf (i * 15+5)
   have c6:=(hT4.slot hi 6 (by omega)).trans rfl
   have f6:=hT4.slotf (i * 15+6)
   have c7:=(hT4.slot hi 7 (by omega)).trans rfl
   have f7:=hT4.slotf (i * 15+7)
   have c8:=(hT4.slot hi 8 (by omega)).trans rfl
   have f8:=hT4.slotf (i * 15+8)
   have c9:=(hT4.slot hi 9 (by omega)).trans rfl
   have f9:=hT4.slotf (i * 15+9)
   have c10:=(hT4.slot hi 10 (by omega)).trans rfl
   have f10:=hT4.slotf (i * 15+10)
   have c11:=(hT4.slot hi 11 (by omega)).trans rfl
   have f11:=hT4.slotf (i * 15+11)
   have c12:=(hT4.slot hi 12 (by omega)).trans rfl
   have f12:=hT4.slotf (i * 15+12)
   have c13:=(hT4.slot hi 13 (by omega)).trans rfl
   have f13:=hT4.slotf (i * 15+13)
   have c14:=(hT4.slot hi 14 (by omega)).trans rfl
   have f14:=hT4.slotf (i * 15+14)
   simp at q11 q12 f0 c0 c1 c2 c3 c4 c5 c6 c7 c8 c9 c10 c11 c12 c13 c14
   replace hT4:=Lib.hid hT4
   go_upto_region 5 with fail
   have hST:TabP (((((((((((((((w4.setCell ⟨sb,i * 15,none⟩ (.int .i64 0)).setCell ⟨sb,i * 15+1,none⟩ (.bool false)).setCell ⟨sb,i * 15+2,none⟩ (.int .u64 0)).setCell ⟨sb,i * 15+3,none⟩ (.int .u64 0)).setCell ⟨sb,i * 15+4,none⟩ (.bool false)).setCell ⟨sb,i * 15+5,none⟩ (.int .u64 0)).setCell ⟨sb,i * 15+6,none⟩ (.int .u64 0)).setCell ⟨sb,i * 15+7,none⟩ (.int .i64 0)).setCell ⟨sb,i * 15+8,none⟩ (.int .i64 0)).setCell ⟨sb,i * 15+9,none⟩ (.int .i64 0)).setCell ⟨sb,i * 15+10,none⟩ (.int .i64 0)).setCell ⟨sb,i * 15+11,none⟩ (.int .i64 (i:Int))).setCell ⟨sb,i * 15+12,none⟩ (.int .u64 (IntKind.u64.wrap (sl.gen+1)))).setCell ⟨sb,i * 15+13,none⟩ (.int .i64 0)).setCell ⟨sb,i * 15+14,none⟩ (.bool false)) g sb n c _ X4∧Chg (·=sb) w4 (((((((((((((((w4.setCell ⟨sb,i * 15,none⟩ (.int .i64 0)).setCell ⟨sb,i * 15+1,none⟩ (.bool false)).setCell ⟨sb,i * 15+2,none⟩ (.int .u64 0)).setCell ⟨sb,i * 15+3,none⟩ (.int .u64 0)).setCell ⟨sb,i * 15+4,none⟩ (.bool false)).setCell ⟨sb,i * 15+5,none⟩ (.int .u64 0)).setCell ⟨sb,i * 15+6,none⟩ (.int .u64 0)).setCell ⟨sb,i * 15+7,none⟩ (.int .i64 0)).setCell ⟨sb,i * 15+8,none⟩ (.int .i64 0)).setCell ⟨sb,i * 15+9,none⟩ (.int .i64 0)).setCell ⟨sb,i * 15+10,none⟩ (.int .i64 0)).setCell ⟨sb,i * 15+11,none⟩ (.int .i64 (i:Int))).setCell ⟨sb,i * 15+12,none⟩ (.int .u64 (IntKind.u64.wrap (sl.gen+1)))).setCell ⟨sb,i * 15+13,none⟩ (.int .i64 0)).setCell ⟨sb,i * 15+14,none⟩ (.bool false)):=hT4.out.setAll hi ⟨tup0,0,0,(i:Int),IntKind.u64.wrap (sl.gen+1),0,false⟩
   generalize (((((((((((((((w4.setCell ⟨sb,i * 15,none⟩ (.int .i64 0)).setCell ⟨sb,i * 15+1,none⟩ (.bool false)).setCell ⟨sb,i * 15+2,none⟩ (.int .u64 0)).setCell ⟨sb,i * 15+3,none⟩ (.int .u64 0)).setCell ⟨sb,i * 15+4,none⟩ (.bool false)).setCell ⟨sb,i * 15+5,none⟩ (.int .u64 0)).setCell ⟨sb,i * 15+6,none⟩ (.int .u64 0)).setCell ⟨sb,i * 15+7,none⟩ (.int .i64 0)).setCell ⟨sb,i * 15+8,none⟩ (.int .i64 0)).setCell ⟨sb,i * 15+9,none⟩ (.int .i64 0)).setCell ⟨sb,i * 15+10,none⟩ (.int .i64 0)).setCell ⟨sb,i * 15+11,none⟩ (.int .i64 (i:Int))).setCell ⟨sb,i * 15+12,none⟩ (.int .u64 (IntKind.u64.wrap (sl.gen+1)))).setCell ⟨sb,i * 15+13,none⟩ (.int .i64 0)).setCell ⟨sb,i * 15+14,none⟩ (.bool false))=w5 at *
   obtain ⟨hT5,hc5⟩:=hST
   have B1c:=B1b.chg hc5 (fun e=>by have:r=sb:=e;omega)
   have B2c:=B2b.chg hc5 (fun e=>by have:q=sb:=e;omega)
   clear q11 q12 c0 f0 c1 f1 c2 f2 c3 f3 c4 f4 c5 f5 c6 f6 c7 f7 c8 f8 c9 f9 c10 f10 c11 f11 c12 f12 c13 f13 c14 f14 hT4 B1b B2b
   have q0:=(B2c.cell 0).trans rfl
   have r0:=(B1c.cell 0).trans rfl
   have q1:=(B2c.cell 1).trans rfl
   have r1:=(B1c.cell 1).trans rfl
   have q2:=(B2c.cell 2).trans rfl
   have r2:=(B1c.cell 2).trans rfl
   have q3:=(B2c.cell 3).trans rfl
   have r3:=(B1c.cell 3).trans rfl
   have q4:=(B2c.cell 4).trans rfl
   have r4:=(B1c.cell 4).trans rfl
   have q5:=(B2c.cell 5).trans rfl
   have r5:=(B1c.cell 5).trans rfl
   have q6:=(B2c.cell 6).trans rfl
   have r6:=(B1c.cell 6).trans rfl
   have q7:=(B2c.cell 7).trans rfl
   have r7:=(B1c.cell 7).trans rfl
   have q8:=(B2c.cell 8).trans rfl
   have r8:=(B1c.cell 8).trans rfl
   have q9:=(B2c.cell 9).trans rfl
   have r9:=(B1c.cell 9).trans rfl
   have q10:=(B2c.cell 10).trans rfl
   have r10:=(B1c.cell 10).trans rfl
   have q11:=(B2c.cell 11).trans rfl
   have r11:=(B1c.cell 11).trans rfl
   have q12:=(B2c.cell 12).trans rfl
   have r12:=(B1c.cell 12).trans rfl
   have q13:=(B2c.cell 13).trans rfl
   have r13:=(B1c.cell 13).trans rfl
   have rf:=B1c.frozen
   simp at q0 r0 q1 r1 q2 r2 q3 r3 q4 r4 q5 r5 q6 r6 q7 r7 q8 r8 q9 r9 q10 r10 q11 r11 q12 r12 q13 r13
   replace hT5:=Lib.hid hT5
   replace B1c:=Lib.hid B1c
   go_wp2_with fail
   have B6:=((((((((((((((B1c.out.set_ 0 (.int .i64 sl.t.p)).set_ 1 (.bool sl.t.v)).set_ 2 (.int .u64 sl.t.hi)).set_ 3 (.int .u64 sl.t.lo)).set_ 4 (.bool sl.t.v')).set_ 5 (.int .u64 sl.t.hi')).set_ 6 (.int .u64 sl.t.lo')).set_ 7 (.int .i64 sl.t.sp)).set_ 8 (.int .i64 sl.t.dp)).set_ 9 (.int .i64 sl.bk)).set_ 10 (.int .i64 sl.st)).set_ 11 (.int .i64 (i:Int))).set_ 12 (.int .u64 sl.gen)).set_ 13 (.int .i64 sl.due))
   simp at B6
   have hc6:Chg (·=r) w5 ((((((((((((((w5.setCell ⟨r,0,none⟩ (.int .i64 sl.t.p)).setCell ⟨r,1,none⟩ (.bool sl.t.v)).setCell ⟨r,2,none⟩ (.int .u64 sl.t.hi)).setCell ⟨r,3,none⟩ (.int .u64 sl.t.lo)).setCell ⟨r,4,none⟩ (.bool sl.t.v')).setCell ⟨r,5,none⟩ (.int .u64 sl.t.hi')).setCell ⟨r,6,none⟩ (.int .u64 sl.t.lo')).setCell ⟨r,7,none⟩ (.int .i64 sl.t.sp)).setCell ⟨r,8,none⟩ (.int .i64 sl.t.dp)).setCell ⟨r,9,none⟩ (.int .i64 sl.bk)).setCell ⟨r,10,none⟩ (.int .i64 sl.st)).setCell ⟨r,11,none⟩ (.int .i64 (i:Int))).setCell ⟨r,12,none⟩ (.int .u64 sl.gen)).setCell ⟨r,13,none⟩ (.int .i64 sl.due)):=Chg.setCell (F:=(·=r)) (p:=⟨r,13,none⟩) (Chg.setCell (F:=(·=r)) (p:=⟨r,12,none⟩) (Chg.setCell (F:=(·=r)) (p:=⟨r,11,none⟩) (Chg.setCell (F:=(·=r)) (p:=⟨r,10,none⟩) (Chg.setCell (F:=(·=r)) (p:=⟨r,9,none⟩) (Chg.setCell (F:=(·=r)) (p:=⟨r,8,none⟩) (Chg.setCell (F:=(·=r)) (p:=⟨r,7,none⟩) (Chg.setCell (F:=(·=r)) (p:=⟨r,6,none⟩) (Chg.setCell (F:=(·=r)) (p:=⟨r,5,none⟩) (Chg.setCell (F:=(·=r)) (p:=⟨r,4,none⟩) (Chg.setCell (F:=(·=r)) (p:=⟨r,3,none⟩) (Chg.setCell (F:=(·=r)) (p:=⟨r,2,none⟩) (Chg.setCell (F:=(·=r)) (p:=⟨r,1,none⟩) (Chg.setCell (F:=(·=r)) (p:=⟨r,0,none⟩) (Chg.refl _ _) (fun _=>rfl) _) (fun _=>rfl) _) (fun _=>rfl) _) (fun _=>rfl) _) (fun _=>rfl) _) (fun _=>rfl) _) (fun _=>rfl) _) (fun _=>rfl) _) (fun _=>rfl) _) (fun _=>rfl) _) (fun _=>rfl) _) (fun _=>rfl) _) (fun _=>rfl) _) (fun _=>rfl) _
   generalize ((((((((((((((w5.setCell ⟨r,0,none⟩ (.int .i64 sl.t.p)).setCell ⟨r,1,none⟩ (.bool sl.t.v)).setCell ⟨r,2,none⟩ (.int .u64 sl.t.hi)).setCell ⟨r,3,none⟩ (.int .u64 sl.t.lo)).setCell ⟨r,4,none⟩ (.bool sl.t.v')).setCell ⟨r,5,none⟩ (.int .u64 sl.t.hi')).setCell ⟨r,6,none⟩ (.int .u64 sl.t.lo')).setCell ⟨r,7,none⟩ (.int .i64 sl.t.sp)).setCell ⟨r,8,none⟩ (.int .i64 sl.t.dp)).setCell ⟨r,9,none⟩ (.int .i64 sl.bk)).setCell ⟨r,10,none⟩ (.int .i64 sl.st)).setCell ⟨r,11,none⟩ (.int .i64 (i:Int))).setCell ⟨r,12,none⟩ (.int .u64 sl.gen)).setCell ⟨r,13,none⟩ (.int .i64 sl.due))=w6 at *
   clear q0 r0 q1 r1 q2 r2 q3 r3 q4 r4 q5 r5 q6 r6 q7 r7 q8 r8 q9 r9 q10 r10 q11 r11 q12 r12 q13 r13
   have r0:=(B6.cell 0).trans rfl
   have r1:=(B6.cell 1).trans rfl
   have r2:=(B6.cell 2).trans rfl
   have r3:=(B6.cell 3).trans rfl
   have r4:=(B6.cell 4).trans rfl
   have r5:=(B6.cell 5).trans rfl
   have r6:=(B6.cell 6).trans rfl
   have r7:=(B6.cell 7).trans rfl
   have r8:=(B6.cell 8).trans rfl
   have r9:=(B6.cell 9).trans rfl
   have r10:=(B6.cell 10).trans rfl
   have r11:=(B6.cell 11).trans rfl
   have r12:=(B6.cell 12).trans rfl
   have r13:=(B6.cell 13).trans rfl
   simp at r0 r1 r2 r3 r4 r5 r6 r7 r8 r9 r10 r11 r12 r13
   have hT6:=hT5.out.chg hc6 (fun b hb e=>(hX4n b hb).1 e)
   have hE:(⟨tup0,0,0,(i:Int),IntKind.u64.wrap (sl.gen+1),0,false⟩:Slt)=clrS sl:=by unfold clrS;rw [hsl]
   rw [hE] at hT6
   have hC6:Chg X w w6:=by
    have a1:Chg X w w3:=(Chg.of_below hb2).trans (G:=X) (show Chg X w2 w3 from hc3) (fun _ _ h=>h)
    have a2:Chg X w w4:=a1.trans (G:=X3) (show Chg X3 w3 w4 from hc4) (fun b hb hx=>by
     rcases hX3 b hx with h5 | h5
     · exact h5
     ·
      have h5:w2.heap.size≤b:=h5
      omega)
    have a3:Chg X w w5:=a2.trans (G:=(·=sb)) hc5 (fun b _ e=>by have e2:b=sb:=e;rw [e2];exact hsbX)
    exact a3.trans (G:=(·=r)) hc6 (fun b hb e=>by have e2:b=r:=e;omega)
   have hX6:∀ b,X4 b→X b∨w.heap.size≤b:=fun b hb=>by
    rcases hX4 b hb with h5 | h5
    ·
     rcases hX3 b h5 with h6 | h6
     · exact .inl h6
     ·
      have h6:w2.heap.size≤b:=h6
      exact .inr (by omega)
    ·
     have h5:w3.heap.size≤b:=h5
     have h7:w2.heap.size≤w3.heap.size:=hz3
     exact .inr (by omega)
   have hv:sl.val=.agg #[.int .i64 sl.t.p,.bool sl.t.v,.int .u64 sl.t.hi,.int .u64 sl.t.lo,.bool sl.t.v',.int .u64 sl.t.hi',.int .u64 sl.t.lo',.int .i64 sl.t.sp,.int .i64 sl.t.dp,.int .i64 sl.bk,.int .i64 sl.st,.int .i64 (i:Int),.int .u64 sl.gen,.int .i64 sl.due]:=by rw [← hsl]
   replace hT6:=Lib.hid hT6
   replace hC6:=Lib.hid hC6
   replace hX6:=Lib.hid hX6
   replace hv:=Lib.hid hv
   clear hc6 hX4 hX3 hXlt hX3n hX4n hc4 hc3 hc5 hT5 B1c B6 B2c rf h hC hslE
   refine bodyPost_ret (v:=.agg #[.int .i64 sl.t.p,.bool sl.t.v,.int .u64 sl.t.hi,.int .u64 sl.t.lo,.bool sl.t.v',.int .u64 sl.t.hi',.int .u64 sl.t.lo',.int .i64 sl.t.sp,.int .i64 sl.t.dp,.int .i64 sl.bk,.int .i64 sl.st,.int .i64 (i:Int),.int .u64 sl.gen,.int .i64 sl.due]) (by simp [results,Tryz.results167,go_sem, *]) rfl ?_
   exact ⟨by rw [hv.out],X4,hT6.out,hC6.out,by rw [hr] at hX6;exact hX6.out⟩
end
abbrev Slt.entA (x:Slt):Array Value:=#[.int .i64 x.t.p,.bool x.t.v,.int .u64 x.t.hi,.int .u64 x.t.lo,.bool x.t.v',.int .u64 x.t.hi',.int .u64 x.t.lo',.int .i64 x.t.sp,.int .i64 x.t.dp,.int .i64 x.bk,.int .i64 x.st,.int .i64 x.sl,.int .u64 x.gen,.int .i64 x.due]
@[reducible] def Ac (w:World) (r:Nat) (x:Slt):World:=((((((((((((((w.setCell ⟨r,0,none⟩ (.int .i64 x.t.p)).setCell ⟨r,1,none⟩ (.bool x.t.v)).setCell ⟨r,2,none⟩ (.int .u64 x.t.hi)).setCell ⟨r,3,none⟩ (.int .u64 x.t.lo)).setCell ⟨r,4,none⟩ (.bool x.t.v')).setCell ⟨r,5,none⟩ (.int .u64 x.t.hi')).setCell ⟨r,6,none⟩ (.int .u64 x.t.lo')).setCell ⟨r,7,none⟩ (.int .i64 x.t.sp)).setCell ⟨r,8,none⟩ (.int .i64 x.t.dp)).setCell ⟨r,9,none⟩ (.int .i64 x.bk)).setCell ⟨r,10,none⟩ (.int .i64 x.st)).setCell ⟨r,11,none⟩ (.int .i64 x.sl)).setCell ⟨r,12,none⟩ (.int .u64 x.gen)).setCell ⟨r,13,none⟩ (.int .i64 x.due))
theorem Ab {w:World} {r:Nat} {y:Slt} (h:Blk w r 52 y.entA) (x:Slt):Blk (Ac w r x) r 52 x.entA∧Chg (·=r) w (Ac w r x):=by
 have B6:=((((((((((((((h.set_ 0 (.int .i64 x.t.p)).set_ 1 (.bool x.t.v)).set_ 2 (.int .u64 x.t.hi)).set_ 3 (.int .u64 x.t.lo)).set_ 4 (.bool x.t.v')).set_ 5 (.int .u64 x.t.hi')).set_ 6 (.int .u64 x.t.lo')).set_ 7 (.int .i64 x.t.sp)).set_ 8 (.int .i64 x.t.dp)).set_ 9 (.int .i64 x.bk)).set_ 10 (.int .i64 x.st)).set_ 11 (.int .i64 x.sl)).set_ 12 (.int .u64 x.gen)).set_ 13 (.int .i64 x.due))
 simp at B6
 exact ⟨B6,Chg.setCell (F:=(·=r)) (p:=⟨r,13,none⟩) (Chg.setCell (F:=(·=r)) (p:=⟨r,12,none⟩) (Chg.setCell (F:=(·=r)) (p:=⟨r,11,none⟩) (Chg.setCell (F:=(·=r)) (p:=⟨r,10,none⟩) (Chg.setCell (F:=(·=r)) (p:=⟨r,9,none⟩) (Chg.setCell (F:=(·=r)) (p:=⟨r,8,none⟩) (Chg.setCell (F:=(·=r)) (p:=⟨r,7,none⟩) (Chg.setCell (F:=(·=r)) (p:=⟨r,6,none⟩) (Chg.setCell (F:=(·=r)) (p:=⟨r,5,none⟩) (Chg.setCell (F:=(·=r)) (p:=⟨r,4,none⟩) (Chg.setCell (F:=(·=r)) (p:=⟨r,3,none⟩) (Chg.setCell (F:=(·=r)) (p:=⟨r,2,none⟩) (Chg.setCell (F:=(·=r)) (p:=⟨r,1,none⟩) (Chg.setCell (F:=(·=r)) (p:=⟨r,0,none⟩) (Chg.refl _ _) (fun _=>rfl) _) (fun _=>rfl) _) (fun _=>rfl) _) (fun _=>rfl) _) (fun _=>rfl) _) (fun _=>rfl) _) (fun _=>rfl) _) (fun _=>rfl) _) (fun _=>rfl) _) (fun _=>rfl) _) (fun _=>rfl) _) (fun _=>rfl) _) (fun _=>rfl) _) (fun _=>rfl) _⟩
def slt0:Slt:=⟨tup0,0,0,0,0,0,false⟩
theorem AB {w:World} {r:Nat} {y:Slt} (h:Blk w r 52 y.entA):w.cell? ⟨r,0,none⟩=some (.int .i64 y.t.p)∧w.cell? ⟨r,1,none⟩=some (.bool y.t.v)∧w.cell? ⟨r,2,none⟩=some (.int .u64 y.t.hi)∧w.cell? ⟨r,3,none⟩=some (.int .u64 y.t.lo)∧w.cell? ⟨r,4,none⟩=some (.bool y.t.v')∧w.cell? ⟨r,5,none⟩=some (.int .u64 y.t.hi')∧w.cell? ⟨r,6,none⟩=some (.int .u64 y.t.lo')∧w.cell? ⟨r,7,none⟩=some (.int .i64 y.t.sp)∧w.cell? ⟨r,8,none⟩=some (.int .i64 y.t.dp)∧w.cell? ⟨r,9,none⟩=some (.int .i64 y.bk)∧w.cell? ⟨r,10,none⟩=some (.int .i64 y.st)∧w.cell? ⟨r,11,none⟩=some (.int .i64 y.sl)∧w.cell? ⟨r,12,none⟩=some (.int .u64 y.gen)∧w.cell? ⟨r,13,none⟩=some (.int .i64 y.due)∧∀ j,w.frozen? ⟨r,j,none⟩=false :=
 ⟨h.cell 0,h.cell 1,h.cell 2,h.cell 3,h.cell 4,h.cell 5,h.cell 6,h.cell 7,h.cell 8,h.cell 9,h.cell 10,h.cell 11,h.cell 12,h.cell 13,h.frozen⟩
def TabTo (w w':World) (g sb n:Nat) (c:TCfg) (s:TSt) (X:Nat→Prop):Prop :=
 ∃ X',TabP w' g sb n c s X'∧Chg X w w'∧∀ b,X' b→X b∨w.heap.size≤b
section
variable {w w1 w2 w3:World} {g sb n r:Nat} {c:TCfg} {s s':TSt} {X F:Nat→Prop}
theorem TabP.gX (h:TabP w g sb n c s X):X g:=by
 obtain ⟨_,_,_,_,_,_,_,_,h5,_⟩:=h
 exact (h5 _).2 (.inl rfl)
theorem TabP.sbX (h:TabP w g sb n c s X):X sb:=by
 obtain ⟨_,_,_,_,_,_,_,_,h5,_⟩:=h
 exact (h5 _).2 (.inr (.inl rfl))
theorem TabTo.of (h:TabP w1 g sb n c s X) (k:Chg X w w1):TabTo w w1 g sb n c s X:=⟨X,h,k,fun _ h=>.inl h⟩
theorem TabTo.fin (hX:∀ b,X b→b<w.heap.size) (hb:Below w.heap.size w w1) (t:TabTo w1 w2 g sb n c s X) (k:Chg (·=r) w2 w3) (hr:w.heap.size≤r) (hr1:r<w1.heap.size):TabTo w w3 g sb n c s X:=by
 obtain ⟨X',h1,h2,h3⟩:=t
 have hz:=hb.size
 have hn:∀ b,X' b→b≠r:=fun b hx=>by
  rcases h3 b hx with h | h
  ·
   have:=hX b h
   omega
  · omega
 exact ⟨X',h1.chg k fun b hx e=>hn b hx e,((Chg.of_below hb).trans (G:=X) h2 (fun _ _ h=>h)).trans (G:=(·=r)) k (fun b hb e=>by have e2:b=r:=e;omega),fun b hx=>(h3 b hx).imp id (fun h=>Nat.le_trans hz h)⟩
theorem TabTo.chgX (t:TabTo w1 w2 g sb n c s X) (k:Chg X w w1):TabTo w w2 g sb n c s X:=by
 obtain ⟨X1,h1,h2,h3⟩:=t
 have hz:=k.size
 exact ⟨X1,h1,k.trans (G:=X) h2 (fun _ _ h=>h),fun b hx=>(h3 b hx).imp id (fun h=>Nat.le_trans hz h)⟩
def goS (n:Nat) (s:TSt) (i:Nat):TSt:={ s with E:=updE s.E i (clrS (s.E i)),M:=lmDel s.M i,L:=pushL n s.L i }
theorem GI (h:TabP w g sb n c s X) (i:Nat) (hi:i<n) (hsl:(s.E i).sl=i) :
  Calls Tryz.prog 167 #[.pointer (some ⟨g,0,none⟩),.pointer (some ⟨sb,i * 15,none⟩)] w fun e w'=>e=.returned (s.E i).val∧TabTo w w' g sb n c (goS n s i) X:=Rf h i hi hsl
theorem AQ (n:Nat) (i:Int) (s:TSt):(lookS n i s).E=s.E:=by
 unfold lookS
 split <;> rfl
theorem Kv (n:Nat) (i:Int) (s:TSt):(lookS n i s).M=s.M:=by
 unfold lookS
 split <;> rfl
theorem Dm (n:Nat) (i:Int) (s:TSt):(lookS n i s).now=s.now:=by
 unfold lookS
 split <;> rfl
def AG (n:Nat) (s:TSt) (i:Int):Bool:=Bc n i && (s.E i.toNat).used
def closeS (n:Nat) (s:TSt) (i:Int):TSt:=if AG n s i then goS n (lookS n i s) i.toNat else lookS n i s
end
def Ct (c:TCfg) (s:TSt) (i:Nat):TSt:={ s with E:=updE s.E i { s.E i with due:=dueT c s.now (s.E i).st },M:=lmPut s.M i (dueT c s.now (s.E i).st) }
def TCfg.right (c:TCfg):Prop:=∀ st,0≤idleS c.a c.b c.c c.d st∧idleS c.a c.b c.c c.d st≤1048576
section
variable {w w1 w2 w3:World} {g sb n r:Nat} {c:TCfg} {s s':TSt} {X F:Nat→Prop}
theorem Im (h:TabP w g sb n c s X) (i:Nat) (hi:i<n) (hsl:(s.E i).sl=i) (hM:s.M.length≤100000) (hI:c.right) :
  Calls Tryz.prog 148 #[.pointer (some ⟨g,0,none⟩),.pointer (some ⟨sb,i * 15,none⟩)] w fun e w'=>e=.returned (.tuple #[])∧TabTo w w' g sb n c (Ct c s i) X:=Q6 h i hi hsl hM (hI _)
def nextT (x:Slt) (fl:Int):Slt:={ x with st:=nextS x.st fl }
def Bl (n:Nat) (s:TSt) (i:Int) (fl:Int):TSt:={ lookS n i s with E:=updE s.E i.toNat (nextT (s.E i.toNat) fl) }
def Bd (c:TCfg) (n:Nat) (s:TSt) (i:Int) (fl:Int):TSt :=
 if AG n s i then (if nextS (s.E i.toNat).st fl=4 then goS n (Bl n s i fl) i.toNat else Ct c (Bl n s i fl) i.toNat) else lookS n i s
def AO (c:TCfg) (n:Nat) (s:TSt) (i:Int) (fl:Int):Slt :=
 if AG n s i then (if nextS (s.E i.toNat).st fl=4 then nextT (s.E i.toNat) fl else { nextT (s.E i.toNat) fl with due:=dueT c s.now (nextS (s.E i.toNat).st fl) }) else slt0
set_option maxRecDepth 100000 in
set_option maxHeartbeats 4000000 in
theorem Q7 (h:TabP w g sb n c s X) (hsl:∀ k:Nat,k<n→(s.E k).sl=k) (hM:s.M.length≤100000) (hI:c.right) (i fl:Int) :
  Calls Tryz.prog 88 #[.pointer (some ⟨g,0,none⟩),.int .i64 i,.int .i64 fl] w fun e w'=>e=.returned (.tuple #[(AO c n s i fl).val,.bool (AG n s i)])∧TabTo w w' g sb n c (Bd c n s i fl) X:=by
 replace hI:=Lib.hid hI
 have hXlt:∀ b,X b→b<w.heap.size:=fun b hb=>h.lt hb
 have B1:=Blk.new w 52 slt0.entA
 have hb1:Below w.heap.size w (w.alloc (.cells slt0.entA 52)):=Aa (Below.refl _ _) _
 have h1:=h.call hb1
 have hzz:w.heap.size<(w.alloc (.cells slt0.entA 52)).heap.size:=B1.lt
 clear h
 replace B1:=Lib.hid B1
 replace hsl:=Lib.hid hsl
 replace hXlt:=Lib.hid hXlt
 replace h1:=Lib.hid h1
 go_enter Tryz.func88,Tryz.ntmps88
 go_upto_region 1 with fail
 change Code.wp _ _ _ _ (w.alloc (.cells slt0.entA 52))
 obtain ⟨r,hr⟩:∃ r,w.heap.size=r:=⟨_,rfl⟩
 rw [hr] at B1 hzz
 generalize w.alloc (.cells slt0.entA 52)=w1 at *
 try rw [hr]
 have LK:=Lib.hid (Il h1.out i)
 go_wp2_with fail
 refine LK.out.mono ?_
 rintro e w2 ⟨rfl,h2,hc2⟩
 have hrX:¬ r=g:=fun e=>by
  have:=hXlt.out g h1.out.gX
  omega
 have B2:=B1.out.chg hc2 (fun e=>hrX e)
 have hc2X:Chg X w1 w2:=hc2.mono fun b _ e=>by have e2:b=g:=e;rw [e2];exact h1.out.gX
 clear LK hc2
 by_cases hi:Bc n i=true
 ·
  rw [hi,if_pos rfl]
  have hi2:=hi
  unfold Bc at hi2
  rw [decide_eq_true_eq] at hi2
  obtain ⟨k,rfl⟩:∃ k:Nat,i=(k:Int):=⟨i.toNat,by omega⟩
  have hk:k<n:=by omega
  rw [Int.toNat_natCast]
  have cu:=(h2.slot hk 14 (by omega)).trans rfl
  simp [AQ] at cu
  have hO:AG n s k=(s.E k).used:=by unfold AG;rw [hi,Int.toNat_natCast,Bool.true_and]
  cases hu:(s.E k).used
  ·
   rw [hu] at hO cu
   have hV:AO c n s k fl=slt0:=by unfold AO;rw [hO];rfl
   have hS:Bd c n s k fl=lookS n k s:=by unfold Bd;rw [hO];rfl
   obtain ⟨r0,r1,r2,r3,r4,r5,r6,r7,r8,r9,r10,r11,r12,r13,rf⟩:=AB B2
   replace B2:=Lib.hid B2
   go_wp2_with fail
   change bodyPost _ _ _ _ _ (Ac w2 r slt0)
   obtain ⟨B6,hc6⟩:=Ab B2.out slt0
   have hT6:=TabTo.fin hXlt.out hb1 (TabTo.of h2 hc2X) hc6 (Nat.le_of_eq hr) (by omega)
   generalize Ac w2 r slt0=w6 at *
   clear r0 r1 r2 r3 r4 r5 r6 r7 r8 r9 r10 r11 r12 r13 rf
   obtain ⟨r0,r1,r2,r3,r4,r5,r6,r7,r8,r9,r10,r11,r12,r13,-⟩:=AB B6
   clear B6 hc6
   replace hT6:=Lib.hid hT6
   replace hS:=Lib.hid hS
   replace hV:=Lib.hid hV
   replace hO:=Lib.hid hO
   refine bodyPost_ret (v:=.tuple #[(slt0).val,.bool false]) (by simp [results,Tryz.results88,go_sem,r0,r1,r2,r3,r4,r5,r6,r7,r8,r9,r10,r11,r12,r13]) rfl ?_
   exact ⟨by rw [hV.out,hO.out],by rw [hS.out];exact hT6.out⟩
  ·
   rw [hu] at hO cu
   have c10:=(h2.slot hk 10 (by omega)).trans rfl
   have f10:=h2.slotf (k * 15+10)
   simp [AQ] at c10
   have h3:=h2.setE hk 10 (by omega) (.int .i64 (nextS (s.E k).st fl)) (nextT (s.E k) fl) (by rw [AQ];rfl)
   have hc3:Chg X w2 (w2.setCell ⟨sb,k * 15+10,none⟩ (.int .i64 (nextS (s.E k).st fl))):=Chg.setCell (F:=X) (p:=⟨sb,k * 15+10,none⟩) (Chg.refl _ _) (fun _=>h2.sbX) _
   have NX:=Lib.hid fun W=>QI (s.E k).st fl W
   replace h2:=Lib.hid h2
   go_upto_region 5 with (go_at_call 166;(with_reducible refine (NX.out _).mono ?_);rintro e w8 ⟨rfl,rfl⟩)
   have B3:=B2.chg hc3 (fun e=>by have:=hXlt.out _ e;omega)
   have hc3X:=hc2X.trans (G:=X) hc3 (fun _ _ h=>h)
   rw [AQ] at h3
   have e1:({ lookS n k s with E:=updE s.E k (nextT (s.E k) fl) }:TSt)=Bl n s k fl:=by unfold Bl;rw [Int.toNat_natCast]
   have h3:TabP _ g sb n c (Bl n s k fl) X:=e1 ▸ h3
   generalize w2.setCell ⟨sb,k * 15+10,none⟩ (.int .i64 (nextS (s.E k).st fl))=w3 at *
   have eE:(Bl n s k fl).E k=nextT (s.E k) fl:=by unfold Bl;rw [Int.toNat_natCast];exact Ad _ _ _
   have eM:(Bl n s k fl).M=s.M:=Kv n k s
   have eN:(Bl n s k fl).now=s.now:=Dm n k s
   clear cu c10 f10 NX hc3 B2
   have d10:=(h3.slot hk 10 (by omega)).trans rfl
   rw [eE] at d10
   simp [nextT] at d10
   have hslk:((Bl n s k fl).E k).sl=k:=by rw [eE];exact hsl.out k hk
   by_cases h4:nextS (s.E k).st fl=4
   ·
    have x4:(nextS (s.E k).st fl==4)=true:=by simpa using h4
    have hV:AO c n s k fl=nextT (s.E k) fl:=by unfold AO;rw [hO,if_pos rfl,Int.toNat_natCast,if_pos h4]
    have hS:Bd c n s k fl=goS n (Bl n s k fl) k:=by unfold Bd;rw [hO,if_pos rfl,Int.toNat_natCast,if_pos h4]
    have GO:=GI h3 k hk hslk
    rw [eE] at GO
    replace GO:=Lib.hid GO
    replace h4:=Lib.hid h4
    generalize hnx:nextT (s.E k) fl=x at *
    replace hnx:=Lib.hid hnx
    go_wp2_with fail
    refine GO.out.mono ?_
    rintro e w4 ⟨rfl,hT4⟩
    have hc4:Chg X w3 w4:=by obtain ⟨_,_,h,_⟩:=hT4;exact h
    have B4:=B3.chg hc4 (fun e=>by have:=hXlt.out _ e;omega)
    obtain ⟨r0,r1,r2,r3,r4,r5,r6,r7,r8,r9,r10,r11,r12,r13,rf⟩:=AB B4
    replace hT4:=Lib.hid hT4
    replace B4:=Lib.hid B4
    go_wp2_with fail
    change bodyPost _ _ _ _ _ (Ac w4 r x)
    obtain ⟨B6,hc6⟩:=Ab B4.out x
    have hT6:=TabTo.fin hXlt.out hb1 (hT4.out.chgX hc3X) hc6 (Nat.le_of_eq hr) (by omega)
    generalize Ac w4 r x=w6 at *
    clear r0 r1 r2 r3 r4 r5 r6 r7 r8 r9 r10 r11 r12 r13 rf
    obtain ⟨r0,r1,r2,r3,r4,r5,r6,r7,r8,r9,r10,r11,r12,r13,-⟩:=AB B6
    clear B6 hc6
    replace hT6:=Lib.hid hT6
    replace hS:=Lib.hid hS
    replace hV:=Lib.hid hV
    replace hO:=Lib.hid hO
    refine bodyPost_ret (v:=.tuple #[(x).val,.bool true]) (by simp [results,Tryz.results88,go_sem,r0,r1,r2,r3,r4,r5,r6,r7,r8,r9,r10,r11,r12,r13]) rfl ?_
    exact ⟨by rw [hV.out,hO.out],by rw [hS.out];exact hT6.out⟩
   ·
    have x4:(nextS (s.E k).st fl==4)=false:=by simpa using h4
    obtain ⟨x,hx⟩:∃ x:Slt,x={ nextT (s.E k) fl with due:=dueT c s.now (nextS (s.E k).st fl) }:=⟨_,rfl⟩
    have hV:AO c n s k fl=x:=by unfold AO;rw [hO,if_pos rfl,Int.toNat_natCast,if_neg h4,hx]
    have hS:Bd c n s k fl=Ct c (Bl n s k fl) k:=by unfold Bd;rw [hO,if_pos rfl,Int.toNat_natCast,if_neg h4]
    have hxE:(Ct c (Bl n s k fl) k).E k=x:=by
     show updE _ k _ k=x
     rw [Ad,eE,eN,hx]
     rfl
    have AW:=Lib.hid (Im h3 k hk hslk (by rw [eM];exact hM) hI.out)
    replace h4:=Lib.hid h4
    replace hx:=Lib.hid hx
    go_upto_region 8 with (go_at_call 148;(with_reducible refine AW.out.mono ?_);rintro e w4 ⟨rfl,hT4⟩)
    have hc4:Chg X w3 w4:=by obtain ⟨_,_,h,_⟩:=hT4;exact h
    have B4:=B3.chg hc4 (fun e=>by have:=hXlt.out _ e;omega)
    obtain ⟨X4,h4',-,-⟩:=id hT4
    have hC:=fun j hj=>h4'.slot hk j hj
    rw [hxE] at hC
    have c0:w4.cell? ⟨sb,k * 15,none⟩=some (.int .i64 x.t.p):=hC 0 (by omega)
    have c1:w4.cell? ⟨sb,k * 15+1,none⟩=some (.bool x.t.v):=hC 1 (by omega)
    have c2:w4.cell? ⟨sb,k * 15+2,none⟩=some (.int .u64 x.t.hi):=hC 2 (by omega)
    have c3:w4.cell? ⟨sb,k * 15+3,none⟩=some (.int .u64 x.t.lo):=hC 3 (by omega)
    have c4:w4.cell? ⟨sb,k * 15+4,none⟩=some (.bool x.t.v'):=hC 4 (by omega)
    have c5:w4.cell? ⟨sb,k * 15+5,none⟩=some (.int .u64 x.t.hi'):=hC 5 (by omega)
    have c6:w4.cell? ⟨sb,k * 15+6,none⟩=some (.int .u64 x.t.lo'):=hC 6 (by omega)
    have c7:w4.cell? ⟨sb,k * 15+7,none⟩=some (.int .i64 x.t.sp):=hC 7 (by omega)
    have c8:w4.cell? ⟨sb,k * 15+8,none⟩=some (.int .i64 x.t.dp):=hC 8 (by omega)
    have c9:w4.cell? ⟨sb,k * 15+9,none⟩=some (.int .i64 x.bk):=hC 9 (by omega)
    have c10:w4.cell? ⟨sb,k * 15+10,none⟩=some (.int .i64 x.st):=hC 10 (by omega)
    have c11:w4.cell? ⟨sb,k * 15+11,none⟩=some (.int .i64 x.sl):=hC 11 (by omega)
    have c12:w4.cell? ⟨sb,k * 15+12,none⟩=some (.int .u64 x.gen):=hC 12 (by omega)
    have c13:w4.cell? ⟨sb,k * 15+13,none⟩=some (.int .i64 x.due):=hC 13 (by omega)
    obtain ⟨r0,r1,r2,r3,r4,r5,r6,r7,r8,r9,r10,r11,r12,r13,rf⟩:=AB B4
    replace hT4:=Lib.hid hT4
    replace B4:=Lib.hid B4
    clear hC h4'
    go_wp2_with fail
    clear c0 c1 c2 c3 c4 c5 c6 c7 c8 c9 c10 c11 c12 c13
    change bodyPost _ _ _ _ _ (Ac w4 r x)
    obtain ⟨B6,hc6⟩:=Ab B4.out x
    have hT6:=TabTo.fin hXlt.out hb1 (hT4.out.chgX hc3X) hc6 (Nat.le_of_eq hr) (by omega)
    generalize Ac w4 r x=w6 at *
    clear r0 r1 r2 r3 r4 r5 r6 r7 r8 r9 r10 r11 r12 r13 rf
    obtain ⟨r0,r1,r2,r3,r4,r5,r6,r7,r8,r9,r10,r11,r12,r13,-⟩:=AB B6
    clear B6 hc6
    replace hT6:=Lib.hid hT6
    replace hS:=Lib.hid hS
    replace hV:=Lib.hid hV
    replace hO:=Lib.hid hO
    refine bodyPost_ret (v:=.tuple #[(x).val,.bool true]) (by simp [results,Tryz.results88,go_sem,r0,r1,r2,r3,r4,r5,r6,r7,r8,r9,r10,r11,r12,r13]) rfl ?_
    exact ⟨by rw [hV.out,hO.out],by rw [hS.out];exact hT6.out⟩
 ·
  have hi':Bc n i=false:=by simpa using hi
  rw [hi',if_neg (by decide)]
  have hO:AG n s i=false:=by unfold AG;rw [hi',Bool.false_and]
  have hV:AO c n s i fl=slt0:=by unfold AO;rw [hO];rfl
  have hS:Bd c n s i fl=lookS n i s:=by unfold Bd;rw [hO];rfl
  obtain ⟨r0,r1,r2,r3,r4,r5,r6,r7,r8,r9,r10,r11,r12,r13,rf⟩:=AB B2
  replace B2:=Lib.hid B2
  go_wp2_with fail
  change bodyPost _ _ _ _ _ (Ac w2 r slt0)
  obtain ⟨B6,hc6⟩:=Ab B2.out slt0
  have hT6:=TabTo.fin hXlt.out hb1 (TabTo.of h2 hc2X) hc6 (Nat.le_of_eq hr) (by omega)
  generalize Ac w2 r slt0=w6 at *
  clear r0 r1 r2 r3 r4 r5 r6 r7 r8 r9 r10 r11 r12 r13 rf
  obtain ⟨r0,r1,r2,r3,r4,r5,r6,r7,r8,r9,r10,r11,r12,r13,-⟩:=AB B6
  clear B6 hc6
  replace hT6:=Lib.hid hT6
  replace hS:=Lib.hid hS
  replace hV:=Lib.hid hV
  replace hO:=Lib.hid hO
  refine bodyPost_ret (v:=.tuple #[(slt0).val,.bool false]) (by simp [results,Tryz.results88,go_sem,r0,r1,r2,r3,r4,r5,r6,r7,r8,r9,r10,r11,r12,r13]) rfl ?_
  exact ⟨by rw [hV.out,hO.out],by rw [hS.out];exact hT6.out⟩
end
section
variable {w w1 w2 w3:World} {g sb n r:Nat} {c:TCfg} {s s':TSt} {X F:Nat→Prop}
@[reducible] def openW (w:World) (sb i:Nat) (t:Tup) (bk st:Int):World:=((((((((((((w.setCell ⟨sb,i * 15,none⟩ (.int .i64 t.p)).setCell ⟨sb,i * 15+1,none⟩ (.bool t.v)).setCell ⟨sb,i * 15+2,none⟩ (.int .u64 ((t.hi:Nat):Int))).setCell ⟨sb,i * 15+3,none⟩ (.int .u64 ((t.lo:Nat):Int))).setCell ⟨sb,i * 15+4,none⟩ (.bool t.v')).setCell ⟨sb,i * 15+5,none⟩ (.int .u64 ((t.hi':Nat):Int))).setCell ⟨sb,i * 15+6,none⟩ (.int .u64 ((t.lo':Nat):Int))).setCell ⟨sb,i * 15+7,none⟩ (.int .i64 t.sp)).setCell ⟨sb,i * 15+8,none⟩ (.int .i64 t.dp)).setCell ⟨sb,i * 15+9,none⟩ (.int .i64 bk)).setCell ⟨sb,i * 15+10,none⟩ (.int .i64 st)).setCell ⟨sb,i * 15+14,none⟩ (.bool true))
theorem Slots.setOpen {E:Nat→Slt} (h:Slots w sb n E) {i:Nat} (hi:i<n) (t:Tup) (bk st:Int):Slots (openW w sb i t bk st) sb n (updE E i { E i with t:=t,bk:=bk,st:=st,used:=true }):=by
 have h0:=h.set hi 0 (by omega) (.int .i64 t.p) ⟨⟨t.p,(E i).t.v,(E i).t.hi,(E i).t.lo,(E i).t.v',(E i).t.hi',(E i).t.lo',(E i).t.sp,(E i).t.dp⟩,(E i).bk,(E i).st,(E i).sl,(E i).gen,(E i).due,(E i).used⟩ rfl
 have h1:=h0.set hi 1 (by omega) (.bool t.v) ⟨⟨t.p,t.v,(E i).t.hi,(E i).t.lo,(E i).t.v',(E i).t.hi',(E i).t.lo',(E i).t.sp,(E i).t.dp⟩,(E i).bk,(E i).st,(E i).sl,(E i).gen,(E i).due,(E i).used⟩ (by simp only [Ad];rfl)
 rw [Az] at h1
 have h2:=h1.set hi 2 (by omega) (.int .u64 ((t.hi:Nat):Int)) ⟨⟨t.p,t.v,t.hi,(E i).t.lo,(E i).t.v',(E i).t.hi',(E i).t.lo',(E i).t.sp,(E i).t.dp⟩,(E i).bk,(E i).st,(E i).sl,(E i).gen,(E i).due,(E i).used⟩ (by simp only [Ad];rfl)
 rw [Az] at h2
 have h3:=h2.set hi 3 (by omega) (.int .u64 ((t.lo:Nat):Int)) ⟨⟨t.p,t.v,t.hi,t.lo,(E i).t.v',(E i).t.hi',(E i).t.lo',(E i).t.sp,(E i).t.dp⟩,(E i).bk,(E i).st,(E i).sl,(E i).gen,(E i).due,(E i).used⟩ (by simp only [Ad];rfl)
 rw [Az] at h3
 have h4:=h3.set hi 4 (by omega) (.bool t.v') ⟨⟨t.p,t.v,t.hi,t.lo,t.v',(E i).t.hi',(E i).t.lo',(E i).t.sp,(E i).t.dp⟩,(E i).bk,(E i).st,(E i).sl,(E i).gen,(E i).due,(E i).used⟩ (by simp only [Ad];rfl)
 rw [Az] at h4
 have h5:=h4.set hi 5 (by omega) (.int .u64 ((t.hi':Nat):Int)) ⟨⟨t.p,t.v,t.hi,t.lo,t.v',t.hi',(E i).t.lo',(E i).t.sp,(E i).t.dp⟩,(E i).bk,(E i).st,(E i).sl,(E i).gen,(E i).due,(E i).used⟩ (by simp only [Ad];rfl)
 rw [Az] at h5
 have h6:=h5.set hi 6 (by omega) (.int .u64 ((t.lo':Nat):Int)) ⟨⟨t.p,t.v,t.hi,t.lo,t.v',t.hi',t.lo',(E i).t.sp,(E i).t.dp⟩,(E i).bk,(E i).st,(E i).sl,(E i).gen,(E i).due,(E i).used⟩ (by simp only [Ad];rfl)
 rw [Az] at h6
 have h7:=h6.set hi 7 (by omega) (.int .i64 t.sp) ⟨⟨t.p,t.v,t.hi,t.lo,t.v',t.hi',t.lo',t.sp,(E i).t.dp⟩,(E i).bk,(E i).st,(E i).sl,(E i).gen,(E i).due,(E i).used⟩ (by simp only [Ad];rfl)
 rw [Az] at h7
 have h8:=h7.set hi 8 (by omega) (.int .i64 t.dp) ⟨⟨t.p,t.v,t.hi,t.lo,t.v',t.hi',t.lo',t.sp,t.dp⟩,(E i).bk,(E i).st,(E i).sl,(E i).gen,(E i).due,(E i).used⟩ (by simp only [Ad];rfl)
 rw [Az] at h8
 have h9:=h8.set hi 9 (by omega) (.int .i64 bk) ⟨⟨t.p,t.v,t.hi,t.lo,t.v',t.hi',t.lo',t.sp,t.dp⟩,bk,(E i).st,(E i).sl,(E i).gen,(E i).due,(E i).used⟩ (by simp only [Ad];rfl)
 rw [Az] at h9
 have h10:=h9.set hi 10 (by omega) (.int .i64 st) ⟨⟨t.p,t.v,t.hi,t.lo,t.v',t.hi',t.lo',t.sp,t.dp⟩,bk,st,(E i).sl,(E i).gen,(E i).due,(E i).used⟩ (by simp only [Ad];rfl)
 rw [Az] at h10
 have h11:=h10.set hi 14 (by omega) (.bool true) ⟨⟨t.p,t.v,t.hi,t.lo,t.v',t.hi',t.lo',t.sp,t.dp⟩,bk,st,(E i).sl,(E i).gen,(E i).due,true⟩ (by simp only [Ad];rfl)
 rw [Az] at h11
 exact h11
theorem TabP.setOpen (h:TabP w g sb n c s X) {i:Nat} (hi:i<n) (t:Tup) (bk st:Int):TabP (openW w sb i t bk st) g sb n c { s with E:=updE s.E i { s.E i with t:=t,bk:=bk,st:=st,used:=true } } X∧Chg X w (openW w sb i t bk st):=by
 have hX:=h.sbX
 have k:Chg (·=sb) w (openW w sb i t bk st):=Chg.setCell (F:=(·=sb)) (p:=⟨sb,i * 15+14,none⟩) (Chg.setCell (F:=(·=sb)) (p:=⟨sb,i * 15+10,none⟩) (Chg.setCell (F:=(·=sb)) (p:=⟨sb,i * 15+9,none⟩) (Chg.setCell (F:=(·=sb)) (p:=⟨sb,i * 15+8,none⟩) (Chg.setCell (F:=(·=sb)) (p:=⟨sb,i * 15+7,none⟩) (Chg.setCell (F:=(·=sb)) (p:=⟨sb,i * 15+6,none⟩) (Chg.setCell (F:=(·=sb)) (p:=⟨sb,i * 15+5,none⟩) (Chg.setCell (F:=(·=sb)) (p:=⟨sb,i * 15+4,none⟩) (Chg.setCell (F:=(·=sb)) (p:=⟨sb,i * 15+3,none⟩) (Chg.setCell (F:=(·=sb)) (p:=⟨sb,i * 15+2,none⟩) (Chg.setCell (F:=(·=sb)) (p:=⟨sb,i * 15+1,none⟩) (Chg.setCell (F:=(·=sb)) (p:=⟨sb,i * 15,none⟩) (Chg.refl _ _) (fun _=>rfl) _) (fun _=>rfl) _) (fun _=>rfl) _) (fun _=>rfl) _) (fun _=>rfl) _) (fun _=>rfl) _) (fun _=>rfl) _) (fun _=>rfl) _) (fun _=>rfl) _) (fun _=>rfl) _) (fun _=>rfl) _) (fun _=>rfl) _
 obtain ⟨fs,wg,F',Y,h1,h2,h3,h4,h5,h6,h7,h8,h9⟩:=h
 exact ⟨⟨fs,wg,F',Y,h1.chg k h8,h2.chg k (fun b hb e=>(h7 b (.inl hb)).2 e),h3.chg k (fun b hb e=>(h7 b (.inr hb)).2 e),h4.setOpen hi t bk st,h5,h6,h7,h8,h9⟩,k.mono fun b _ e=>by have e2:b=sb:=e;rw [e2];exact hX⟩
theorem TabP.freeR (h:TabP w g sb n c s X):∀ x ∈ s.L,0≤x∧x<n:=by
 obtain ⟨fs,wg,F',Y,h1,⟨vf,gi,_,_,_,_,_,h6,_⟩,_⟩:=h
 exact h6
theorem TabTo.after {X3:Nat→Prop} (k:Chg X w w1) (hX:∀ b,X3 b→X b∨w.heap.size≤b) (t:TabTo w1 w2 g sb n c s X3):TabTo w w2 g sb n c s X:=by
 obtain ⟨X2,k1,k2,k3⟩:=t
 have hz:=k.size
 exact ⟨X2,k1,k.trans (G:=X3) k2 (fun b hb hx=>(hX b hx).elim id fun h=>absurd h (by omega)),fun b hx=>by
  rcases k3 b hx with h | h
  · exact hX b h
  · exact .inr (by omega)⟩
def Bh (t:Tup) (bk fl:Int):Bool:=tupOk t && decide (0≤bk∧bk≤65535) && !(BJ t.p fl==0)
def openE (s:TSt) (t:Tup) (bk fl:Int):Int:=if Bh t bk fl then (if s.L.isEmpty then 9 else 0) else 1
def openX (x:Slt) (t:Tup) (bk fl:Int):Slt:={ x with t:=t,bk:=bk,st:=BJ t.p fl,used:=true }
def Cu (n:Nat) (s:TSt) (i:Int) (l:List Int) (t:Tup) (bk fl:Int):TSt:={ lookS n i { s with L:=l } with E:=updE s.E i.toNat (openX (s.E i.toNat) t bk fl) }
def openS (c:TCfg) (n:Nat) (s:TSt) (t:Tup) (bk fl:Int):TSt :=
 if Bh t bk fl then (match s.L with | []=>s | i :: l=>Ct c (Cu n s i l t bk fl) i.toNat) else s
def openV (c:TCfg) (s:TSt) (t:Tup) (bk fl:Int):Slt :=
 if Bh t bk fl then (match s.L with | []=>slt0 | i :: _=>{ openX (s.E i.toNat) t bk fl with due:=dueT c s.now (BJ t.p fl) }) else slt0
set_option maxRecDepth 100000 in
set_option maxHeartbeats 4000000 in
theorem Rg (h:TabP w g sb n c s X) (hsl:∀ k:Nat,k<n→(s.E k).sl=k) (hM:s.M.length≤100000) (hI:c.right) (t:Tup) (bk fl:Int) :
  Calls Tryz.prog 80 #[.pointer (some ⟨g,0,none⟩),t.val,.int .i64 bk,.int .i64 fl] w fun e w'=>e=.returned (.tuple #[(openV c s t bk fl).val,.int .i64 (openE s t bk fl)])∧TabTo w w' g sb n c (openS c n s t bk fl) X:=by
 have hXlt:∀ b,X b→b<w.heap.size:=fun b hb=>h.lt hb
 have hfr:=h.freeR
 have P0:=Blk.new w 47 t.cells.toArray
 have hb0:Below w.heap.size w (w.alloc (.cells t.cells.toArray 47)):=Aa (Below.refl _ _) _
 have B1:=Blk.new (w.alloc (.cells t.cells.toArray 47)) 52 slt0.entA
 have hb1:Below w.heap.size w ((w.alloc (.cells t.cells.toArray 47)).alloc (.cells slt0.entA 52)):=Aa hb0 _
 have P1:=P0.alloc (.cells slt0.entA 52)
 have h1:=h.call hb1
 have hzz:=B1.lt
 rw [World.size_alloc] at B1 hzz
 clear h hb0 P0
 replace hI:=Lib.hid hI
 replace B1:=Lib.hid B1
 replace hsl:=Lib.hid hsl
 replace hXlt:=Lib.hid hXlt
 replace hfr:=Lib.hid hfr
 replace h1:=Lib.hid h1
 go_enter Tryz.func80,Tryz.ntmps80
 go_upto_region 1 with fail
 change Code.wp _ _ _ _ ((w.alloc (.cells t.cells.toArray 47)).alloc (.cells slt0.entA 52))
 obtain ⟨r,hr⟩:∃ r,w.heap.size+1=r:=⟨_,rfl⟩
 obtain ⟨p,hp⟩:∃ p,w.heap.size=p:=⟨_,rfl⟩
 rw [hr] at B1 hzz
 rw [hp] at P1
 generalize (w.alloc (.cells t.cells.toArray 47)).alloc (.cells slt0.entA 52)=w1 at *
 try rw [hr]
 try rw [hp]
 have BG:=Lib.hid fun W=>Jo t.p fl W
 have GV:=Lib.hid (Ea h1.out)
 have TR:=Lib.hid (H9 t w1)
 have hpw:p<w1.heap.size:=P1.lt
 have p0:w1.cell? ⟨p,0,none⟩=some (.int .i64 t.p):=P1.cell 0
 have p1:w1.cell? ⟨p,1,none⟩=some (.bool t.v):=P1.cell 1
 have p2:w1.cell? ⟨p,2,none⟩=some (.int .u64 t.hi):=P1.cell 2
 have p3:w1.cell? ⟨p,3,none⟩=some (.int .u64 t.lo):=P1.cell 3
 have p4:w1.cell? ⟨p,4,none⟩=some (.bool t.v'):=P1.cell 4
 have p5:w1.cell? ⟨p,5,none⟩=some (.int .u64 t.hi'):=P1.cell 5
 have p6:w1.cell? ⟨p,6,none⟩=some (.int .u64 t.lo'):=P1.cell 6
 have p7:w1.cell? ⟨p,7,none⟩=some (.int .i64 t.sp):=P1.cell 7
 have p8:w1.cell? ⟨p,8,none⟩=some (.int .i64 t.dp):=P1.cell 8
 obtain ⟨st,hst⟩:∃ st,BJ t.p fl=st:=⟨_,rfl⟩
 obtain ⟨tk,htk⟩:∃ tk,tupOk t=tk:=⟨_,rfl⟩
 rw [hst] at BG
 rw [htk] at TR
 by_cases hok:Bh t bk fl=true
 ·
  have ho2:=hok
  unfold Bh at ho2
  rw [hst,htk] at ho2
  simp only [Bool.and_eq_true,decide_eq_true_eq,Bool.not_eq_true'] at ho2
  obtain ⟨⟨rfl,hbk⟩,hst0⟩:=ho2
  have x1:decide (bk<0)=false:=by simp;omega
  have x2:decide (65535<bk)=false:=by simp;omega
  go_upto_region 4 with (first
  | (go_at_call 143;(with_reducible refine (BG.out _).mono ?_);rintro e w8 ⟨rfl,rfl⟩)
  | (go_at_call 144;(with_reducible refine GV.out.mono ?_);rintro e w8 ⟨rfl,rfl⟩)
  | (go_at_call 145;(with_reducible refine TR.out.mono ?_);rintro e w2 ⟨rfl,hb2⟩))
  have hbX2:Chg X w1 w2:=Chg.of_below hb2
  have h2:=h1.out.call hb2
  have B2:=B1.out.call hb2
  have P2:=P1.call hb2
  have hzz2:=hb2.size
  clear BG GV TR p0 p1 p2 p3 p4 p5 p6 p7 p8 x1 x2 hb2
  obtain ⟨wg,-,fs,F2,Y2,c4,hP,-,-,hFn,-,hput⟩:=h2.wheel
  have PO:=Sa _ _ _ _ _ hP
  clear hP
  cases hL:s.L with
  | nil =>
   rw [hL] at PO
   replace PO:=Lib.hid PO
   replace hput:=Lib.hid hput
   go_upto_region 5 with (go_at_call 146;(with_reducible refine PO.out.mono ?_);rintro e w3 ⟨rfl,hP3,hcF⟩)
   have hT3:TabTo w2 w3 g sb n c { s with L:=[] } X:=hput.out _ _ _ hP3 hcF (fun b hb=>.inl hb)
   have hc3:Chg X w2 w3:=by obtain ⟨_,_,h,_⟩:=hT3;exact h
   have B3:=B2.chg hc3 (fun e=>by have:=hXlt.out _ e;omega)
   have eS:({ s with L:=[] }:TSt)=s:=by rw [← hL]
   rw [eS] at hT3
   have hO:openE s t bk fl=9:=by unfold openE;rw [hok,hL];rfl
   have hV:openV c s t bk fl=slt0:=by unfold openV;rw [hok,hL];rfl
   have hS:openS c n s t bk fl=s:=by unfold openS;rw [hok,hL];rfl
   obtain ⟨r0,r1,r2,r3,r4,r5,r6,r7,r8,r9,r10,r11,r12,r13,rf⟩:=AB B3
   replace hT3:=Lib.hid hT3
   replace B3:=Lib.hid B3
   clear hput PO hP3 hcF c4 B2
   go_wp2_with fail
   change bodyPost _ _ _ _ _ (Ac w3 r slt0)
   obtain ⟨B6,hc6⟩:=Ab B3.out slt0
   have hT6:=TabTo.fin hXlt.out hb1 (hT3.out.chgX hbX2) hc6 (by omega) (by omega)
   generalize Ac w3 r slt0=w6 at *
   clear r0 r1 r2 r3 r4 r5 r6 r7 r8 r9 r10 r11 r12 r13 rf
   obtain ⟨r0,r1,r2,r3,r4,r5,r6,r7,r8,r9,r10,r11,r12,r13,-⟩:=AB B6
   clear B6 hc6
   replace hT6:=Lib.hid hT6
   replace hS:=Lib.hid hS
   replace hV:=Lib.hid hV
   replace hO:=Lib.hid hO
   refine bodyPost_ret (v:=.tuple #[(slt0).val,.int .i64 9]) (by simp [results,Tryz.results80,go_sem,r0,r1,r2,r3,r4,r5,r6,r7,r8,r9,r10,r11,r12,r13]) rfl ?_
   exact ⟨by rw [hV.out,hO.out],by rw [hS.out];exact hT6.out⟩
  | cons i0 l =>
   rw [hL] at PO
   have hi0:=hfr.out i0 (by rw [hL];exact List.mem_cons_self)
   obtain ⟨k,rfl⟩:∃ k:Nat,i0=(k:Int):=⟨i0.toNat,by omega⟩
   have hk:k<n:=by omega
   replace PO:=Lib.hid PO
   replace hput:=Lib.hid hput
   go_upto_region 5 with (go_at_call 146;(with_reducible refine PO.out.mono ?_);rintro e w3 ⟨rfl,hP3,hcF⟩)
   have hT3:TabTo w2 w3 g sb n c { s with L:=l } X:=hput.out _ _ _ hP3 hcF (fun b hb=>.inl hb)
   obtain ⟨X3,h3,hc3,hX3⟩:=hT3
   have hrp:∀ b,X3 b→b≠r∧b≠p:=fun b hb=>by
    rcases hX3 b hb with h | h
    ·
     have:=hXlt.out b h
     omega
    · omega
   have B3:=B2.chg hc3 (fun e=>by have:=hXlt.out _ e;omega)
   have P3:=P2.chg hc3 (fun e=>by have:=hXlt.out _ e;omega)
   clear hput PO hP3 hcF c4 B2 P2 h2
   have LK:=Lib.hid (Il h3 k)
   have hi:Bc n k=true:=by unfold Bc;simpa using hk
   rw [hi,if_pos rfl,Int.toNat_natCast] at LK
   go_upto_region 8 with (go_at_call 147;(with_reducible refine LK.out.mono ?_);rintro e w4 ⟨rfl,h4,hc4⟩)
   have hc4X:Chg X3 w3 w4:=hc4.mono fun b _ e=>by have e2:b=g:=e;rw [e2];exact h3.gX
   have B4:=B3.chg hc4X (fun e=>(hrp _ e).1 rfl)
   have P4:=P3.chg hc4X (fun e=>(hrp _ e).2 rfl)
   have p0:w4.cell? ⟨p,0,none⟩=some (.int .i64 t.p):=P4.cell 0
   have p1:w4.cell? ⟨p,1,none⟩=some (.bool t.v):=P4.cell 1
   have p2:w4.cell? ⟨p,2,none⟩=some (.int .u64 t.hi):=P4.cell 2
   have p3:w4.cell? ⟨p,3,none⟩=some (.int .u64 t.lo):=P4.cell 3
   have p4:w4.cell? ⟨p,4,none⟩=some (.bool t.v'):=P4.cell 4
   have p5:w4.cell? ⟨p,5,none⟩=some (.int .u64 t.hi'):=P4.cell 5
   have p6:w4.cell? ⟨p,6,none⟩=some (.int .u64 t.lo'):=P4.cell 6
   have p7:w4.cell? ⟨p,7,none⟩=some (.int .i64 t.sp):=P4.cell 7
   have p8:w4.cell? ⟨p,8,none⟩=some (.int .i64 t.dp):=P4.cell 8
   have c0:=(h4.slot hk 0 (by omega)).trans rfl
   have f0:=h4.slotf (k * 15+0)
   have c1:=(h4.slot hk 1 (by omega)).trans rfl
   have f1:=h4.slotf (k * 15+1)
   have c2:=(h4.slot hk 2 (by omega)).trans rfl
   have f2:=h4.slotf (k * 15+2)
   have c3:=(h4.slot hk 3 (by omega)).trans rfl
   have f3:=h4.slotf (k * 15+3)
   have c4:=(h4.slot hk 4 (by omega)).trans rfl
   have f4:=h4.slotf (k * 15+4)
   have c5:=(h4.slot hk 5 (by omega)).trans rfl
   have f5:=h4.slotf (k * 15+5)
   have c6:=(h4.slot hk 6 (by omega)).trans rfl
   have f6:=h4.slotf (k * 15+6)
   have c7:=(h4.slot hk 7 (by omega)).trans rfl
   have f7:=h4.slotf (k * 15+7)
   have c8:=(h4.slot hk 8 (by omega)).trans rfl
   have f8:=h4.slotf (k * 15+8)
   have c9:=(h4.slot hk 9 (by omega)).trans rfl
   have f9:=h4.slotf (k * 15+9)
   have c10:=(h4.slot hk 10 (by omega)).trans rfl
   have f10:=h4.slotf (k * 15+10)
   have c14:=(h4.slot hk 14 (by omega)).trans rfl
   have f14:=h4.slotf (k * 15+14)
   simp at f0 c0 c1 c2 c3 c4 c5 c6 c7 c8 c9 c10 c14
   obtain ⟨h5,hc5⟩:=h4.setOpen hk t bk st
   clear LK hc4 B3 P3
   replace h4:=Lib.hid h4
   replace h5:=Lib.hid h5
   replace B4:=Lib.hid B4
   replace P4:=Lib.hid P4
   go_upto_region 9 with fail
   change Code.wp _ _ _ _ (openW w4 sb k t bk st)
   generalize openW w4 sb k t bk st=w5 at *
   have B5:=B4.out.chg hc5 (fun e=>(hrp _ e).1 rfl)
   clear p0 p1 p2 p3 p4 p5 p6 p7 p8 c0 c1 c2 c3 c4 c5 c6 c7 c8 c9 c10 c14 f0 f1 f2 f3 f4 f5 f6 f7 f8 f9 f10 f14 P4 B4 h4
   have e1:({ lookS n k { s with L:=l } with E:=updE s.E k (openX (s.E k) t bk fl) }:TSt)=Cu n s k l t bk fl:=by unfold Cu;rw [Int.toNat_natCast]
   have h5:TabP w5 g sb n c (Cu n s k l t bk fl) X3:=by
    have h6:=h5.out
    rw [AQ] at h6
    rw [← e1]
    unfold openX
    rw [hst]
    exact h6
   have eE:(Cu n s k l t bk fl).E k=openX (s.E k) t bk fl:=by unfold Cu;rw [Int.toNat_natCast];exact Ad _ _ _
   have eM:(Cu n s k l t bk fl).M=s.M:=Kv n k _
   have eN:(Cu n s k l t bk fl).now=s.now:=Dm n k _
   obtain ⟨x,hx⟩:∃ x:Slt,x={ openX (s.E k) t bk fl with due:=dueT c s.now (BJ t.p fl) }:=⟨_,rfl⟩
   have hO:openE s t bk fl=0:=by unfold openE;rw [hok,hL];rfl
   have hV:openV c s t bk fl=x:=by unfold openV;rw [hok,if_pos rfl,hL];dsimp only;rw [Int.toNat_natCast,hx]
   have hS:openS c n s t bk fl=Ct c (Cu n s k l t bk fl) k:=by unfold openS;rw [hok,if_pos rfl,hL];dsimp only;rw [Int.toNat_natCast]
   have hxE:(Ct c (Cu n s k l t bk fl) k).E k=x:=by
    show updE _ k _ k=x
    rw [Ad,eE,eN,hx]
    rfl
   have AW:=Lib.hid (Im h5 k hk (by rw [eE];exact hsl.out k hk) (by rw [eM];exact hM) hI.out)
   replace hx:=Lib.hid hx
   go_upto_region 10 with (go_at_call 148;(with_reducible refine AW.out.mono ?_);rintro e w6 ⟨rfl,hT6⟩)
   have hc6:Chg X3 w5 w6:=by obtain ⟨_,_,h,_⟩:=hT6;exact h
   have B6:=B5.chg hc6 (fun e=>(hrp _ e).1 rfl)
   obtain ⟨X6,h6',-,-⟩:=id hT6
   have hC:=fun j hj=>h6'.slot hk j hj
   rw [hxE] at hC
   have c0:w6.cell? ⟨sb,k * 15,none⟩=some (.int .i64 x.t.p):=hC 0 (by omega)
   have c1:w6.cell? ⟨sb,k * 15+1,none⟩=some (.bool x.t.v):=hC 1 (by omega)
   have c2:w6.cell? ⟨sb,k * 15+2,none⟩=some (.int .u64 x.t.hi):=hC 2 (by omega)
   have c3:w6.cell? ⟨sb,k * 15+3,none⟩=some (.int .u64 x.t.lo):=hC 3 (by omega)
   have c4:w6.cell? ⟨sb,k * 15+4,none⟩=some (.bool x.t.v'):=hC 4 (by omega)
   have c5:w6.cell? ⟨sb,k * 15+5,none⟩=some (.int .u64 x.t.hi'):=hC 5 (by omega)
   have c6:w6.cell? ⟨sb,k * 15+6,none⟩=some (.int .u64 x.t.lo'):=hC 6 (by omega)
   have c7:w6.cell? ⟨sb,k * 15+7,none⟩=some (.int .i64 x.t.sp):=hC 7 (by omega)
   have c8:w6.cell? ⟨sb,k * 15+8,none⟩=some (.int .i64 x.t.dp):=hC 8 (by omega)
   have c9:w6.cell? ⟨sb,k * 15+9,none⟩=some (.int .i64 x.bk):=hC 9 (by omega)
   have c10:w6.cell? ⟨sb,k * 15+10,none⟩=some (.int .i64 x.st):=hC 10 (by omega)
   have c11:w6.cell? ⟨sb,k * 15+11,none⟩=some (.int .i64 x.sl):=hC 11 (by omega)
   have c12:w6.cell? ⟨sb,k * 15+12,none⟩=some (.int .u64 x.gen):=hC 12 (by omega)
   have c13:w6.cell? ⟨sb,k * 15+13,none⟩=some (.int .i64 x.due):=hC 13 (by omega)
   obtain ⟨r0,r1,r2,r3,r4,r5,r6,r7,r8,r9,r10,r11,r12,r13,rf⟩:=AB B6
   have hTT:TabTo w1 w6 g sb n c (Ct c (Cu n s k l t bk fl) k) X:=(TabTo.after hc3 hX3 (hT6.chgX (hc4X.trans (G:=X3) hc5 (fun _ _ h=>h)))).chgX hbX2
   replace hTT:=Lib.hid hTT
   have B7:=Lib.hid B6
   clear hC h6' hT6 B6 hc6 hc5 hc4X hc3 hX3 B5 AW h5 e1 eE eM eN
   go_wp2_with fail
   clear c0 c1 c2 c3 c4 c5 c6 c7 c8 c9 c10 c11 c12 c13
   change bodyPost _ _ _ _ _ (Ac w6 r x)
   obtain ⟨B8,hc6⟩:=Ab B7.out x
   have hT6:=TabTo.fin hXlt.out hb1 hTT.out hc6 (by omega) (by omega)
   generalize Ac w6 r x=w7 at *
   clear r0 r1 r2 r3 r4 r5 r6 r7 r8 r9 r10 r11 r12 r13 rf
   obtain ⟨r0,r1,r2,r3,r4,r5,r6,r7,r8,r9,r10,r11,r12,r13,-⟩:=AB B8
   clear B8 hc6
   replace hT6:=Lib.hid hT6
   replace hS:=Lib.hid hS
   replace hV:=Lib.hid hV
   replace hO:=Lib.hid hO
   refine bodyPost_ret (v:=.tuple #[(x).val,.int .i64 0]) (by simp [results,Tryz.results80,go_sem,r0,r1,r2,r3,r4,r5,r6,r7,r8,r9,r10,r11,r12,r13]) rfl ?_
   exact ⟨by rw [hV.out,hO.out],by rw [hS.out];exact hT6.out⟩
 ·
  have hok':Bh t bk fl=false:=by simpa using hok
  have hO:openE s t bk fl=1:=by unfold openE;rw [hok'];rfl
  have hV:openV c s t bk fl=slt0:=by unfold openV;rw [hok'];rfl
  have hS:openS c n s t bk fl=s:=by unfold openS;rw [hok'];rfl
  have ho2:=hok'
  unfold Bh at ho2
  rw [hst,htk] at ho2
  simp only [Bool.and_eq_false_iff,decide_eq_false_iff_not,Bool.not_eq_false'] at ho2
  cases tk
  case' false=>clear ho2
  case' true =>
   by_cases b1:bk<0
   case' pos =>
    have x1:decide (bk<0)=true:=by simpa using b1
    clear ho2
   case' neg =>
    have x1:decide (bk<0)=false:=by simpa using b1
    by_cases b2:65535<bk
    case' pos =>
     have x2:decide (65535<bk)=true:=by simpa using b2
     clear ho2
    case' neg =>
     have x2:decide (65535<bk)=false:=by simpa using b2
     have x3:(st==0)=true:=by
      rcases ho2 with (h | h) | h
      · cases h
      · omega
      · exact h
     clear ho2
  all_goals
   go_upto_region 3 with (first
    | (go_at_call 143;(with_reducible refine (BG.out _).mono ?_);rintro e w8 ⟨rfl,rfl⟩)
    | (go_at_call 144;(with_reducible refine GV.out.mono ?_);rintro e w8 ⟨rfl,rfl⟩)
    | (go_at_call 145;(with_reducible refine TR.out.mono ?_);rintro e w2 ⟨rfl,hb2⟩))
   have hbX2:Chg X w1 w2:=Chg.of_below hb2
   have h2:=h1.out.call hb2
   have B2:=B1.out.call hb2
   clear BG GV TR p0 p1 p2 p3 p4 p5 p6 p7 p8 hb2
   obtain ⟨r0,r1,r2,r3,r4,r5,r6,r7,r8,r9,r10,r11,r12,r13,rf⟩:=AB B2
   replace h2:=Lib.hid h2
   replace B2:=Lib.hid B2
   go_wp2_with fail
   change bodyPost _ _ _ _ _ (Ac w2 r slt0)
   obtain ⟨B6,hc6⟩:=Ab B2.out slt0
   have hT6:=TabTo.fin hXlt.out hb1 (TabTo.of h2.out hbX2) hc6 (by omega) (by omega)
   generalize Ac w2 r slt0=w6 at *
   clear r0 r1 r2 r3 r4 r5 r6 r7 r8 r9 r10 r11 r12 r13 rf
   obtain ⟨r0,r1,r2,r3,r4,r5,r6,r7,r8,r9,r10,r11,r12,r13,-⟩:=AB B6
   clear B6 hc6
   replace hT6:=Lib.hid hT6
   replace hS:=Lib.hid hS
   replace hV:=Lib.hid hV
   replace hO:=Lib.hid hO
   refine bodyPost_ret (v:=.tuple #[(slt0).val,.int .i64 1]) (by simp [results,Tryz.results80,go_sem,r0,r1,r2,r3,r4,r5,r6,r7,r8,r9,r10,r11,r12,r13]) rfl ?_
   exact ⟨by rw [hV.out,hO.out],by rw [hS.out];exact hT6.out⟩
end
def tupB (t u:Tup):Bool:=t.p==u.p && (t.v==u.v && ((t.hi==u.hi) && (t.lo==u.lo && (t.v'==u.v' && (t.hi'==u.hi' && (t.lo'==u.lo' && (t.sp==u.sp && t.dp==u.dp)))))))
theorem Io {t u:Tup}:tupB t u=true ↔ t=u:=by
 obtain ⟨a1,a2,a3,a4,a5,a6,a7,a8,a9⟩:=t
 obtain ⟨b1,b2,b3,b4,b5,b6,b7,b8,b9⟩:=u
 unfold tupB
 simp
theorem OW (t u:Tup) (w:World):(binOp .neq 47 t.val u.val).run Tryz.prog w=.ok (.bool (!tupB t u)) w:=by
 have u3:=Tryz.underlying3
 have a3:=Tryz.isAgg3
 have z3:=Tryz.sizeOf3
 have u4:=Tryz.underlying24
 have a4:=Tryz.isAgg24
 have z4:=Tryz.sizeOf24
 have u5:=Tryz.underlying4
 have a5:=Tryz.isAgg4
 have z5:=Tryz.sizeOf4
 have a6:=Tryz.isAgg45
 have z6:=Tryz.sizeOf45
 have hS:Tryz.prog.underlying 47=some (.struct (Tryz.prog.fieldsOf 47)):=by kernel_rfl
 have hp:Tryz.prog.stoodInHeld 47=false:=by kernel_rfl
 have hS2:Tryz.prog.underlying 45=some (.struct (Tryz.prog.fieldsOf 45)):=by kernel_rfl
 have hp2:Tryz.prog.stoodInHeld 45=false:=by kernel_rfl
 have hA:=fun (d:Nat) (xs ys:Array Value)=>run_equalIn_agg w d 45 xs ys hS2 hp2
 rw [run_neq_struct,show (10000:Nat)=9999+1 from rfl,run_equalIn_agg w 9999 47 _ _ hS hp]
 clear hS hp hS2 hp2
 simp only [Program.fieldsOf,Tryz.underlying47,Tryz.underlying45] at hA ⊢
 unfold tupB
 obtain ⟨a1,a2,a3,a4,a5,a6,a7,a8,a9⟩:=t
 obtain ⟨b1,b2,b3,b4,b5,b6,b7,b8,b9⟩:=u
 go_simp
 by_cases h1:a1=b1
 case neg=>simp [h1]
 by_cases h2:a2=b2
 case neg=>simp [h1,h2]
 by_cases h3:a3=b3
 case neg =>
  have g3:¬ ((a3:Int)=(b3:Int)):=by omega
  simp [h1,h2,h3,g3]
 by_cases h4:a4=b4
 case neg =>
  have g4:¬ ((a4:Int)=(b4:Int)):=by omega
  simp [h1,h2,h3,h4,g4]
 by_cases h5:a5=b5
 case neg=>simp [h1,h2,h3,h4,h5]
 by_cases h6:a6=b6
 case neg =>
  have g6:¬ ((a6:Int)=(b6:Int)):=by omega
  simp [h1,h2,h3,h4,h5,h6,g6]
 by_cases h7:a7=b7
 case neg =>
  have g7:¬ ((a7:Int)=(b7:Int)):=by omega
  simp [h1,h2,h3,h4,h5,h6,h7,g7]
 by_cases h8:a8=b8
 case neg=>simp [h1,h2,h3,h4,h5,h6,h7,h8]
 by_cases h9:a9=b9
 case neg=>simp [h1,h2,h3,h4,h5,h6,h7,h8,h9]
 simp [h1,h2,h3,h4,h5,h6,h7,h8,h9]
def Be (n:Nat) (s:TSt) (t:Tup) (i low bt:Int):Bool:=AG n s i && (decide (0≤bt∧bt≤63) && (tupB (s.E i.toNat).t t && (bits BinOp.and IntKind.u64 (s.E i.toNat).gen (maskI bt)==low)))
def findV (n:Nat) (s:TSt) (t:Tup) (i low bt:Int):Slt:=if Be n s t i low bt then s.E i.toNat else slt0
section
variable {w w1 w2 w3:World} {g sb n r:Nat} {c:TCfg} {s s':TSt} {X F:Nat→Prop}
set_option maxRecDepth 100000 in
set_option maxHeartbeats 4000000 in
theorem Rh (h:TabP w g sb n c s X) (t:Tup) (i low bt:Int) :
  Calls Tryz.prog 85 #[.pointer (some ⟨g,0,none⟩),t.val,.int .i64 i,.int .u64 low,.int .i64 bt] w fun e w'=>e=.returned (.tuple #[(findV n s t i low bt).val,.bool (Be n s t i low bt)])∧TabTo w w' g sb n c (lookS n i s) X:=by
 have hXlt:∀ b,X b→b<w.heap.size:=fun b hb=>h.lt hb
 have P0:=Blk.new w 47 t.cells.toArray
 have hb0:Below w.heap.size w (w.alloc (.cells t.cells.toArray 47)):=Aa (Below.refl _ _) _
 have B1:=Blk.new (w.alloc (.cells t.cells.toArray 47)) 52 slt0.entA
 have hb1:Below w.heap.size w ((w.alloc (.cells t.cells.toArray 47)).alloc (.cells slt0.entA 52)):=Aa hb0 _
 have P1:=P0.alloc (.cells slt0.entA 52)
 have h1:=h.call hb1
 have hzz:=B1.lt
 rw [World.size_alloc] at B1 hzz
 clear h hb0 P0
 replace B1:=Lib.hid B1
 replace hXlt:=Lib.hid hXlt
 replace h1:=Lib.hid h1
 go_enter Tryz.func85,Tryz.ntmps85
 go_upto_region 1 with fail
 change Code.wp _ _ _ _ ((w.alloc (.cells t.cells.toArray 47)).alloc (.cells slt0.entA 52))
 obtain ⟨r,hr⟩:∃ r,w.heap.size+1=r:=⟨_,rfl⟩
 obtain ⟨p,hp⟩:∃ p,w.heap.size=p:=⟨_,rfl⟩
 rw [hr] at B1 hzz
 rw [hp] at P1
 generalize (w.alloc (.cells t.cells.toArray 47)).alloc (.cells slt0.entA 52)=w1 at *
 try rw [hr]
 try rw [hp]
 have LK:=Lib.hid (Il h1.out i)
 go_wp2_with fail
 refine LK.out.mono ?_
 rintro e w2 ⟨rfl,h2,hc2⟩
 have hrX:¬ r=g:=fun e=>by
  have:=hXlt.out g h1.out.gX
  omega
 have hpX:¬ p=g:=fun e=>by
  have:=hXlt.out g h1.out.gX
  omega
 have B2:=B1.out.chg hc2 (fun e=>hrX e)
 have P2:=P1.chg hc2 (fun e=>hpX e)
 have hc2X:Chg X w1 w2:=hc2.mono fun b _ e=>by have e2:b=g:=e;rw [e2];exact h1.out.gX
 clear LK hc2
 by_cases hi:Bc n i=true
 ·
  rw [hi,if_pos rfl]
  have hi2:=hi
  unfold Bc at hi2
  rw [decide_eq_true_eq] at hi2
  obtain ⟨k,rfl⟩:∃ k:Nat,i=(k:Int):=⟨i.toNat,by omega⟩
  have hk:k<n:=by omega
  rw [Int.toNat_natCast]
  have hC:=fun j hj=>h2.slot hk j hj
  rw [AQ] at hC
  have hO1:Be n s t k low bt=((s.E k).used && (decide (0≤bt∧bt≤63) && (tupB (s.E k).t t && (bits BinOp.and IntKind.u64 (s.E k).gen (maskI bt)==low)))):=by unfold Be AG;rw [hi,Int.toNat_natCast,Bool.true_and]
  have hV1:findV n s t k low bt=if Be n s t k low bt then s.E k else slt0:=by unfold findV;rw [Int.toNat_natCast]
  obtain ⟨x,hx⟩:∃ x,s.E k=x:=⟨_,rfl⟩
  rw [hx] at hC hO1 hV1
  have c0:w2.cell? ⟨sb,k * 15,none⟩=some (.int .i64 x.t.p):=hC 0 (by omega)
  have c1:w2.cell? ⟨sb,k * 15+1,none⟩=some (.bool x.t.v):=hC 1 (by omega)
  have c2:w2.cell? ⟨sb,k * 15+2,none⟩=some (.int .u64 x.t.hi):=hC 2 (by omega)
  have c3:w2.cell? ⟨sb,k * 15+3,none⟩=some (.int .u64 x.t.lo):=hC 3 (by omega)
  have c4:w2.cell? ⟨sb,k * 15+4,none⟩=some (.bool x.t.v'):=hC 4 (by omega)
  have c5:w2.cell? ⟨sb,k * 15+5,none⟩=some (.int .u64 x.t.hi'):=hC 5 (by omega)
  have c6:w2.cell? ⟨sb,k * 15+6,none⟩=some (.int .u64 x.t.lo'):=hC 6 (by omega)
  have c7:w2.cell? ⟨sb,k * 15+7,none⟩=some (.int .i64 x.t.sp):=hC 7 (by omega)
  have c8:w2.cell? ⟨sb,k * 15+8,none⟩=some (.int .i64 x.t.dp):=hC 8 (by omega)
  have c9:w2.cell? ⟨sb,k * 15+9,none⟩=some (.int .i64 x.bk):=hC 9 (by omega)
  have c10:w2.cell? ⟨sb,k * 15+10,none⟩=some (.int .i64 x.st):=hC 10 (by omega)
  have c11:w2.cell? ⟨sb,k * 15+11,none⟩=some (.int .i64 x.sl):=hC 11 (by omega)
  have c12:w2.cell? ⟨sb,k * 15+12,none⟩=some (.int .u64 x.gen):=hC 12 (by omega)
  have c13:w2.cell? ⟨sb,k * 15+13,none⟩=some (.int .i64 x.due):=hC 13 (by omega)
  have c14:w2.cell? ⟨sb,k * 15+14,none⟩=some (.bool x.used):=hC 14 (by omega)
  have p0:w2.cell? ⟨p,0,none⟩=some (.int .i64 t.p):=P2.cell 0
  have p1:w2.cell? ⟨p,1,none⟩=some (.bool t.v):=P2.cell 1
  have p2:w2.cell? ⟨p,2,none⟩=some (.int .u64 t.hi):=P2.cell 2
  have p3:w2.cell? ⟨p,3,none⟩=some (.int .u64 t.lo):=P2.cell 3
  have p4:w2.cell? ⟨p,4,none⟩=some (.bool t.v'):=P2.cell 4
  have p5:w2.cell? ⟨p,5,none⟩=some (.int .u64 t.hi'):=P2.cell 5
  have p6:w2.cell? ⟨p,6,none⟩=some (.int .u64 t.lo'):=P2.cell 6
  have p7:w2.cell? ⟨p,7,none⟩=some (.int .i64 t.sp):=P2.cell 7
  have p8:w2.cell? ⟨p,8,none⟩=some (.int .i64 t.dp):=P2.cell 8
  replace hx:=Lib.hid hx
  clear hC P1 P2
  have hE:=fun W=>OW x.t t W
  have hG:Tryz.prog.eqGuardType Tryz.prog.depth 47=false:=by kernel_rfl
  have MK:=Lib.hid fun W=>(EH bt W).mono fun _ _ h=>And.intro h.1 h.2.symm
  obtain ⟨tb,htb⟩:∃ tb,tupB x.t t=tb:=⟨_,rfl⟩
  obtain ⟨mv,hmv⟩:∃ mv,maskI bt=mv:=⟨_,rfl⟩
  rw [htb] at hE hO1
  rw [hmv] at MK hO1
  obtain ⟨gm,hgm⟩:∃ gm,bits BinOp.and IntKind.u64 x.gen mv=gm:=⟨_,rfl⟩
  rw [hgm] at hO1
  have hTo:=TabTo.of h2 hc2X
  replace hTo:=Lib.hid hTo
  replace h2:=Lib.hid h2
  cases hu:x.used
  ·
   rw [hu] at hO1 c14
   have hO:Be n s t k low bt=false:=by rw [hO1];rfl
   have hV:findV n s t k low bt=slt0:=by rw [hV1,hO];rfl
   replace hO1:=Lib.hid hO1
   replace hV1:=Lib.hid hV1
   clear hE hG MK hgm
   obtain ⟨r0,r1,r2,r3,r4,r5,r6,r7,r8,r9,r10,r11,r12,r13,rf⟩:=AB B2
   replace B2:=Lib.hid B2
   go_wp2_with fail
   clear c0 c1 c2 c3 c4 c5 c6 c7 c8 c9 c10 c11 c12 c13 c14 p0 p1 p2 p3 p4 p5 p6 p7 p8
   change bodyPost _ _ _ _ _ (Ac w2 r slt0)
   obtain ⟨B6,hc6⟩:=Ab B2.out slt0
   have hT6:=TabTo.fin hXlt.out hb1 hTo.out hc6 (by omega) (by omega)
   generalize Ac w2 r slt0=w6 at *
   clear r0 r1 r2 r3 r4 r5 r6 r7 r8 r9 r10 r11 r12 r13 rf
   obtain ⟨r0,r1,r2,r3,r4,r5,r6,r7,r8,r9,r10,r11,r12,r13,-⟩:=AB B6
   clear B6 hc6
   replace hT6:=Lib.hid hT6
   replace hV:=Lib.hid hV
   replace hO:=Lib.hid hO
   refine bodyPost_ret (v:=.tuple #[(slt0).val,.bool false]) (by simp [results,Tryz.results85,go_sem,r0,r1,r2,r3,r4,r5,r6,r7,r8,r9,r10,r11,r12,r13]) rfl ?_
   exact ⟨by rw [hV.out,hO.out],hT6.out⟩
  ·
   rw [hu,Bool.true_and] at hO1
   rw [hu] at c14
   by_cases hbt:0≤bt∧bt≤63
   ·
    rw [decide_eq_true hbt,Bool.true_and] at hO1
    have x1:decide (bt<0)=false:=by simp;omega
    have x2:decide (63<bt)=false:=by simp;omega
    cases tb
    ·
     have hO:Be n s t k low bt=false:=by rw [hO1];rfl
     have hV:findV n s t k low bt=slt0:=by rw [hV1,hO];rfl
     replace hO1:=Lib.hid hO1
     replace hV1:=Lib.hid hV1
     replace hgm:=Lib.hid hgm
     go_upto_region 4 with fail
     go_quiet ((go_at_call 157;with_reducible exact Calls.quiet_of_same (MK.out _)))
     have hbq:=Al (Below.refl w2.heap.size w2) nq
     have h3:=h2.out.call hbq
     have B3:=B2.call hbq
     have hc3X:Chg X w1 (w2.drewN nq):=hc2X.drewN nq
     clear hE hG MK B2
     clear c0 c1 c2 c3 c4 c5 c6 c7 c8 c9 c10 c11 c12 c13 c14 p0 p1 p2 p3 p4 p5 p6 p7 p8
     generalize w2.drewN nq=w3 at *
     have hT3:=TabTo.of h3 hc3X
     replace hT3:=Lib.hid hT3
     replace h3:=Lib.hid h3
     obtain ⟨r0,r1,r2,r3,r4,r5,r6,r7,r8,r9,r10,r11,r12,r13,rf⟩:=AB B3
     replace B3:=Lib.hid B3
     go_wp2_with fail
     change bodyPost _ _ _ _ _ (Ac w3 r slt0)
     obtain ⟨B6,hc6⟩:=Ab B3.out slt0
     have hT6:=TabTo.fin hXlt.out hb1 hT3.out hc6 (by omega) (by omega)
     generalize Ac w3 r slt0=w6 at *
     clear r0 r1 r2 r3 r4 r5 r6 r7 r8 r9 r10 r11 r12 r13 rf
     obtain ⟨r0,r1,r2,r3,r4,r5,r6,r7,r8,r9,r10,r11,r12,r13,-⟩:=AB B6
     clear B6 hc6
     replace hT6:=Lib.hid hT6
     replace hV:=Lib.hid hV
     replace hO:=Lib.hid hO
     refine bodyPost_ret (v:=.tuple #[(slt0).val,.bool false]) (by simp [results,Tryz.results85,go_sem,r0,r1,r2,r3,r4,r5,r6,r7,r8,r9,r10,r11,r12,r13]) rfl ?_
     exact ⟨by rw [hV.out,hO.out],hT6.out⟩
    ·
     rw [Bool.true_and] at hO1
     by_cases hgl:gm=low
     ·
      have hO:Be n s t k low bt=true:=by rw [hO1];simpa using hgl
      have hV:findV n s t k low bt=x:=by rw [hV1,hO];rfl
      have x3:(gm != low)=false:=by simpa using hgl
      replace hO1:=Lib.hid hO1
      replace hV1:=Lib.hid hV1
      replace hgl:=Lib.hid hgl
      go_upto_region 4 with fail
      go_quiet ((go_at_call 157;with_reducible exact Calls.quiet_of_same (MK.out _)))
      have hbq:=Al (Below.refl w2.heap.size w2) nq
      have h3:=h2.out.call hbq
      have B3:=B2.call hbq
      have hc3X:Chg X w1 (w2.drewN nq):=hc2X.drewN nq
      clear hE hG MK B2
      clear c0 c1 c2 c3 c4 c5 c6 c7 c8 c9 c10 c11 c12 c13 c14 p0 p1 p2 p3 p4 p5 p6 p7 p8
      generalize w2.drewN nq=w3 at *
      have hT3:=TabTo.of h3 hc3X
      replace hT3:=Lib.hid hT3
      have hC:=fun j hj=>h3.slot hk j hj
      rw [AQ,hx.out] at hC
      have c0:w3.cell? ⟨sb,k * 15,none⟩=some (.int .i64 x.t.p):=hC 0 (by omega)
      have c1:w3.cell? ⟨sb,k * 15+1,none⟩=some (.bool x.t.v):=hC 1 (by omega)
      have c2:w3.cell? ⟨sb,k * 15+2,none⟩=some (.int .u64 x.t.hi):=hC 2 (by omega)
      have c3:w3.cell? ⟨sb,k * 15+3,none⟩=some (.int .u64 x.t.lo):=hC 3 (by omega)
      have c4:w3.cell? ⟨sb,k * 15+4,none⟩=some (.bool x.t.v'):=hC 4 (by omega)
      have c5:w3.cell? ⟨sb,k * 15+5,none⟩=some (.int .u64 x.t.hi'):=hC 5 (by omega)
      have c6:w3.cell? ⟨sb,k * 15+6,none⟩=some (.int .u64 x.t.lo'):=hC 6 (by omega)
      have c7:w3.cell? ⟨sb,k * 15+7,none⟩=some (.int .i64 x.t.sp):=hC 7 (by omega)
      have c8:w3.cell? ⟨sb,k * 15+8,none⟩=some (.int .i64 x.t.dp):=hC 8 (by omega)
      have c9:w3.cell? ⟨sb,k * 15+9,none⟩=some (.int .i64 x.bk):=hC 9 (by omega)
      have c10:w3.cell? ⟨sb,k * 15+10,none⟩=some (.int .i64 x.st):=hC 10 (by omega)
      have c11:w3.cell? ⟨sb,k * 15+11,none⟩=some (.int .i64 x.sl):=hC 11 (by omega)
      have c12:w3.cell? ⟨sb,k * 15+12,none⟩=some (.int .u64 x.gen):=hC 12 (by omega)
      have c13:w3.cell? ⟨sb,k * 15+13,none⟩=some (.int .i64 x.due):=hC 13 (by omega)
      obtain ⟨r0,r1,r2,r3,r4,r5,r6,r7,r8,r9,r10,r11,r12,r13,rf⟩:=AB B3
      clear hC
      replace h3:=Lib.hid h3
      replace B3:=Lib.hid B3
      go_wp2_with fail
      clear c0 c1 c2 c3 c4 c5 c6 c7 c8 c9 c10 c11 c12 c13
      change bodyPost _ _ _ _ _ (Ac w3 r x)
      obtain ⟨B6,hc6⟩:=Ab B3.out x
      have hT6:=TabTo.fin hXlt.out hb1 hT3.out hc6 (by omega) (by omega)
      generalize Ac w3 r x=w6 at *
      clear r0 r1 r2 r3 r4 r5 r6 r7 r8 r9 r10 r11 r12 r13 rf
      obtain ⟨r0,r1,r2,r3,r4,r5,r6,r7,r8,r9,r10,r11,r12,r13,-⟩:=AB B6
      clear B6 hc6
      replace hT6:=Lib.hid hT6
      replace hV:=Lib.hid hV
      replace hO:=Lib.hid hO
      refine bodyPost_ret (v:=.tuple #[(x).val,.bool true]) (by simp [results,Tryz.results85,go_sem,r0,r1,r2,r3,r4,r5,r6,r7,r8,r9,r10,r11,r12,r13]) rfl ?_
      exact ⟨by rw [hV.out,hO.out],hT6.out⟩
     ·
      have hO:Be n s t k low bt=false:=by rw [hO1];simpa using hgl
      have hV:findV n s t k low bt=slt0:=by rw [hV1,hO];rfl
      have x3:(gm != low)=true:=by simpa using hgl
      replace hO1:=Lib.hid hO1
      replace hV1:=Lib.hid hV1
      replace hgl:=Lib.hid hgl
      go_upto_region 4 with fail
      go_quiet ((go_at_call 157;with_reducible exact Calls.quiet_of_same (MK.out _)))
      have hbq:=Al (Below.refl w2.heap.size w2) nq
      have h3:=h2.out.call hbq
      have B3:=B2.call hbq
      have hc3X:Chg X w1 (w2.drewN nq):=hc2X.drewN nq
      clear hE hG MK B2
      clear c0 c1 c2 c3 c4 c5 c6 c7 c8 c9 c10 c11 c12 c13 c14 p0 p1 p2 p3 p4 p5 p6 p7 p8
      generalize w2.drewN nq=w3 at *
      have hT3:=TabTo.of h3 hc3X
      replace hT3:=Lib.hid hT3
      replace h3:=Lib.hid h3
      obtain ⟨r0,r1,r2,r3,r4,r5,r6,r7,r8,r9,r10,r11,r12,r13,rf⟩:=AB B3
      replace B3:=Lib.hid B3
      go_wp2_with fail
      change bodyPost _ _ _ _ _ (Ac w3 r slt0)
      obtain ⟨B6,hc6⟩:=Ab B3.out slt0
      have hT6:=TabTo.fin hXlt.out hb1 hT3.out hc6 (by omega) (by omega)
      generalize Ac w3 r slt0=w6 at *
      clear r0 r1 r2 r3 r4 r5 r6 r7 r8 r9 r10 r11 r12 r13 rf
      obtain ⟨r0,r1,r2,r3,r4,r5,r6,r7,r8,r9,r10,r11,r12,r13,-⟩:=AB B6
      clear B6 hc6
      replace hT6:=Lib.hid hT6
      replace hV:=Lib.hid hV
      replace hO:=Lib.hid hO
      refine bodyPost_ret (v:=.tuple #[(slt0).val,.bool false]) (by simp [results,Tryz.results85,go_sem,r0,r1,r2,r3,r4,r5,r6,r7,r8,r9,r10,r11,r12,r13]) rfl ?_
      exact ⟨by rw [hV.out,hO.out],hT6.out⟩
   ·
    have hO:Be n s t k low bt=false:=by rw [hO1,decide_eq_false hbt];rfl
    have hV:findV n s t k low bt=slt0:=by rw [hV1,hO];rfl
    replace hO1:=Lib.hid hO1
    replace hV1:=Lib.hid hV1
    clear hE hG MK hgm
    have B3:=B2
    clear B2
    by_cases hb0:bt<0
    case' pos=>have x1:decide (bt<0)=true:=by simpa using hb0
    case' neg =>
     have x1:decide (bt<0)=false:=by simpa using hb0
     have x2:decide (63<bt)=true:=by simp;omega
    all_goals
     clear hbt
     obtain ⟨r0,r1,r2,r3,r4,r5,r6,r7,r8,r9,r10,r11,r12,r13,rf⟩:=AB B3
     replace B3:=Lib.hid B3
     go_wp2_with fail
     clear c0 c1 c2 c3 c4 c5 c6 c7 c8 c9 c10 c11 c12 c13 c14 p0 p1 p2 p3 p4 p5 p6 p7 p8
     change bodyPost _ _ _ _ _ (Ac w2 r slt0)
     obtain ⟨B6,hc6⟩:=Ab B3.out slt0
     have hT6:=TabTo.fin hXlt.out hb1 hTo.out hc6 (by omega) (by omega)
     generalize Ac w2 r slt0=w6 at *
     clear r0 r1 r2 r3 r4 r5 r6 r7 r8 r9 r10 r11 r12 r13 rf
     obtain ⟨r0,r1,r2,r3,r4,r5,r6,r7,r8,r9,r10,r11,r12,r13,-⟩:=AB B6
     clear B6 hc6
     replace hT6:=Lib.hid hT6
     replace hV:=Lib.hid hV
     replace hO:=Lib.hid hO
     refine bodyPost_ret (v:=.tuple #[(slt0).val,.bool false]) (by simp [results,Tryz.results85,go_sem,r0,r1,r2,r3,r4,r5,r6,r7,r8,r9,r10,r11,r12,r13]) rfl ?_
     exact ⟨by rw [hV.out,hO.out],hT6.out⟩
 ·
  have hi':Bc n i=false:=by simpa using hi
  rw [hi',if_neg (by decide)]
  have hO:Be n s t i low bt=false:=by unfold Be AG;rw [hi',Bool.false_and,Bool.false_and]
  have hV:findV n s t i low bt=slt0:=by unfold findV;rw [hO];rfl
  obtain ⟨r0,r1,r2,r3,r4,r5,r6,r7,r8,r9,r10,r11,r12,r13,rf⟩:=AB B2
  replace B2:=Lib.hid B2
  go_wp2_with fail
  change bodyPost _ _ _ _ _ (Ac w2 r slt0)
  obtain ⟨B6,hc6⟩:=Ab B2.out slt0
  have hT6:=TabTo.fin hXlt.out hb1 (TabTo.of h2 hc2X) hc6 (by omega) (by omega)
  generalize Ac w2 r slt0=w6 at *
  clear r0 r1 r2 r3 r4 r5 r6 r7 r8 r9 r10 r11 r12 r13 rf
  obtain ⟨r0,r1,r2,r3,r4,r5,r6,r7,r8,r9,r10,r11,r12,r13,-⟩:=AB B6
  clear B6 hc6
  replace hT6:=Lib.hid hT6
  replace hV:=Lib.hid hV
  replace hO:=Lib.hid hO
  refine bodyPost_ret (v:=.tuple #[(slt0).val,.bool false]) (by simp [results,Tryz.results85,go_sem,r0,r1,r2,r3,r4,r5,r6,r7,r8,r9,r10,r11,r12,r13]) rfl ?_
  exact ⟨by rw [hV.out,hO.out],hT6.out⟩
end
theorem Ip:(Tryz.prog.info? 52).map (fun i=>(i.zero,i.size,i.bytes))=some (some (.agg slt0.entA),14,112):=by kernel_rfl
abbrev OwnE (w:World) (base:Nat) (A:Option Addr) (c:Nat) (l:List Slt):Prop:=OwnA Slt.ent 14 52 w base A c l
theorem AV {W:World} {cs:Array Value} {ops:Array Oper} {rest:List Oper} {o:Oper} {a:Act} {Q:Exit→Act→World→Prop} (hgd:o.guard=none) (s x:Operand)
  (ho:o.op=.call { callee:=.builtin .append,args:=#[s,x],argTypes:=#[58,58] })
  (base:Nat) (A:Option Addr) (c:Nat) (l:List Slt) (v:Slt) (n:Nat) (hn:l.length=n) (hs:a.eval s=.slice A n c) (hown:OwnE W base A c l) (g:Nat) (hg:g=W.heap.size) (hcs:v.ent.toArray=cs)
  (hx:a.eval x=.slice (some ⟨g,0,none⟩) 1 1) (hl:l.length≤1000000) (hbase:base≤W.heap.size)
  (h:∀ A' c' w',OwnE w' base A' c' (l ++ [v])→Pushed W w' A A'→wpList Tryz.prog ops Q rest (a.put o.dst (.slice A' (n+1) c')) w'):wpList Tryz.prog ops Q (o :: rest) a (W.alloc (.cells cs 52)):=by
 obtain ⟨i0,hi0,hz0,hz1,hz2⟩:=info_parts Ip
 exact CQ Slt.ent 14 (fun _=>rfl) (fun b u hu=>by
  simp at hu;rcases hu with rfl | rfl | rfl | rfl | rfl | rfl | rfl | rfl | rfl | rfl | rfl | rfl | rfl | rfl <;> rfl) (by omega) 58 i0 _ 112 Tryz.underlying58 hi0 hz0 hz1 hz2 rfl (by omega) hgd s x ho base A c l v n hn hs hown g hg hcs hx hl hbase h
section
variable {w w1 w2 w3:World} {g sb n r:Nat} {c:TCfg} {s s':TSt} {X F:Nat→Prop}
theorem TabP.wheelGo (h:TabP w g sb n c s X):∃ wg Y,w.cell? ⟨g,5,none⟩=some (.pointer (some ⟨wg,0,none⟩))∧WheelP w wg c.G s.now s.M Y∧∀ (w':World) (now':Int) (M':LM),WheelP w' wg c.G now' M' Y→Chg Y w w'→TabP w' g sb n c { s with now:=now',M:=M' } X∧Chg X w w':=by
 obtain ⟨fs,wg,F',Y,h1,h2,h3,h4,h5,h6,h7,h8,h9⟩:=h
 have c5:=h1.cell 5
 simp at c5
 refine ⟨wg,Y,c5,h3,fun w' now' M' k1 k2=>⟨⟨fs,wg,F',Y,h1.chg k2 (fun e=>(h7 g (.inr e)).1 rfl),h2.chg k2 (fun b hb e=>h6 b hb e),k1,h4.chg k2 (fun e=>(h7 sb (.inr e)).2 rfl),h5,h6,h7,h8,h9⟩,k2.mono fun b _ hb=>(h5 b).2 (.inr (.inr (.inr hb)))⟩⟩
def goAll (n:Nat) (s:TSt) (S:List Int):TSt:=S.foldl (fun s x=>goS n s x.toNat) s
theorem Iq (n:Nat) (s:TSt) {S:List Int} {k:Nat} (hk:k<S.length):goAll n s (S.take (k+1))=goS n (goAll n s (S.take k)) S[k].toNat:=by
 unfold goAll
 rw [List.take_succ_eq_append_getElem hk,List.foldl_append]
 rfl
theorem Gr {n:Nat}:∀ (S:List Int) (s:TSt),(∀ k:Nat,k<n→(s.E k).sl=k)→∀ k:Nat,k<n→((goAll n s S).E k).sl=k
 | [],_,h=>h
 | x :: S,s,h=>Gr S (goS n s x.toNat) fun k hk=>by
  show (updE s.E x.toNat (clrS (s.E x.toNat)) k).sl=k
  unfold updE
  split
  ·
   next e =>
   subst e
   exact h _ hk
  · exact h k hk
theorem Kw {n:Nat}:∀ (S:List Int) (s:TSt) (k:Nat),(∀ x ∈ S,x.toNat≠k)→(goAll n s S).E k=s.E k
 | [],_,_,_=>rfl
 | x :: S,s,k,h=>by
  refine (Kw S (goS n s x.toNat) k fun y hy=>h y (List.mem_cons_of_mem _ hy)).trans ?_
  show updE s.E x.toNat (clrS (s.E x.toNat)) k=s.E k
  exact AP _ _ (fun e=>h x List.mem_cons_self e.symm)
theorem OwnA.low {α:Type} {cells:α→List Value} {m:Nat} {e:TypeId} {base base' c:Nat} {A:Option Addr} {L:List α} (h:OwnA cells m e w base A c L) (hb:base'≤base):OwnA cells m e w base' A c L:=by
 unfold OwnA at h ⊢
 refine ⟨h.1,?_⟩
 rcases h.2 with h0 | ⟨g,cap,cur,h1,hg,r⟩
 · exact .inl h0
 · exact .inr ⟨g,cap,cur,h1,by omega,r⟩
def goTab (n:Nat) (s:TSt) (nw:Int) (S:List Int):TSt:=goAll n { s with now:=goN s.now nw,M:=Av s.M S } S
def Au (s:TSt) (S:List Int):List Slt:=S.map fun x=>s.E x.toNat
set_option maxRecDepth 100000 in
set_option maxHeartbeats 4000000 in
theorem Ri (h:TabP w g sb n c s X) (hsl:∀ k:Nat,k<n→(s.E k).sl=k) (hMn:∀ x,lmHas s.M x=true→0≤x∧x<n) (nw:Int) :
  Calls Tryz.prog 91 #[.pointer (some ⟨g,0,none⟩),.int .i64 nw] w fun e w'=>∃ (B:Option Addr) (q:Nat) (S:List Int),e=.returned (.tuple #[.slice B S.length q,.int .i64 (goE s.now nw)])∧GoS c.G s.now nw s.M S∧OwnE w' w.heap.size B q (Au s S)∧(∀ x ∈ S,0≤x∧x<n)∧TabTo w w' g sb n c (goTab n s nw S) X:=by
 obtain ⟨r1,r2,hn⟩:=h.rng
 obtain ⟨wg,Y,c5,hW,hput⟩:=h.wheelGo
 have hXlt:∀ b,X b→b<w.heap.size:=fun b hb=>h.lt hb
 have GV:=Lib.hid (Ea h)
 have GO:=Lib.hid (Q0 hW nw)
 clear hW
 replace h:=Lib.hid h
 replace hsl:=Lib.hid hsl
 replace hMn:=Lib.hid hMn
 replace hXlt:=Lib.hid hXlt
 replace hput:=Lib.hid hput
 obtain ⟨ev,hev⟩:∃ ev,goE s.now nw=ev:=⟨_,rfl⟩
 rw [hev] at GO
 go_enter Tryz.func91,Tryz.ntmps91
 go_wp2_with (go_at_call 144;(with_reducible refine GV.out.mono ?_);rintro e w8 ⟨rfl,rfl⟩)
 refine GO.out.mono ?_
 rintro e w1 ⟨B,q,S,rfl,hGo,hR,hBn,hW1,hcY⟩
 obtain ⟨h1,hc1⟩:=hput.out _ _ _ hW1 hcY
 have hz1:=hc1.size
 clear hput GO GV hcY c5
 cases hk:goOk s.now nw
 ·
  have he:ev=15:=by rw [← hev];unfold goE;rw [hk];rfl
  have x1:(ev != 0)=true:=by rw [he];rfl
  obtain rfl:=hGo.no hk
  replace hev:=Lib.hid hev
  replace he:=Lib.hid he
  replace hGo:=Lib.hid hGo
  replace h1:=Lib.hid h1
  clear hR
  go_wp2_with fail
  go_ret2
  exact ⟨none,0,[],by rw [hev.out];rfl,hGo.out,OwnA.nil _ _,fun x hx=>absurd hx (by simp),TabTo.of h1.out hc1⟩
 ·
  have he:ev=0:=by rw [← hev];unfold goE;rw [hk];rfl
  have x1:(ev != 0)=false:=by rw [he];rfl
  have hSn:∀ x ∈ S,0≤x∧x<(n:Int):=fun x hx=>hMn.out x (((hGo.mem hk) x).1 hx).1
  have hSl:S.length≤n:=CE n S hGo.nd hSn
  have hSd:=hGo.nd
  obtain ⟨s1,hs1⟩:∃ s1:TSt,s1={ s with now:=goN s.now nw,M:=Av s.M S }:=⟨_,rfl⟩
  rw [← hs1] at h1
  have hE1:s1.E=s.E:=by rw [hs1]
  replace hs1:=Lib.hid hs1
  replace hev:=Lib.hid hev
  replace he:=Lib.hid he
  replace hGo:=Lib.hid hGo
  replace h1:=Lib.hid h1
  replace hSn:=Lib.hid hSn
  replace hSd:=Lib.hid hSd
  go_wp2_with fail
  go_loopw [8,28] (fun ov kv wr=>∃ (j:Nat) (A:Option Addr) (a:Nat) (Xj:Nat→Prop),j≤S.length∧kv=.int .i64 (j:Nat)∧ov=.slice A j a∧OwnE wr w1.heap.size A a (Au s (S.take j))∧TabP wr g sb n c (goAll n s1 (S.take j)) Xj∧(∀ b,InB A b→¬ Xj b)∧(∀ b,Xj b→X b∨w1.heap.size≤b)∧Chg X w1 wr) (fun _ kv _=>S.length - (intOf kv).toNat)
  case atStart=>exact ⟨0,none,0,X,by omega,rfl,rfl,OwnA.nil _ _,h1.out,fun b hb=>absurd hb Ba,fun b hb=>.inl hb,Chg.refl _ _⟩
  case round =>
   obtain ⟨j,A,a,Xj,hj,rfl,rfl,hO,hT,hAX,hXj,hc⟩:=hrel
   have hRj:=hR.chg hc (fun ad e hx=>by have h5:=hBn _ ⟨ad,e,rfl⟩;have h6:=hXlt.out _ hx;omega)
   have hzr:=hc.size
   by_cases hlt:j<S.length
   ·
    have hlti:(j:Int)<(S.length:Int):=by omega
    obtain ⟨ad,rfl,hbl,cS⟩:=hRj.int_at hlt
    rw [show S.getD j 0=S[j] by simp [hlt]] at cS
    have hm:=hSn.out S[j] (List.getElem_mem hlt)
    obtain ⟨m,hme⟩:∃ m:Nat,S[j]=(m:Int):=⟨S[j].toNat,by omega⟩
    rw [hme] at cS hm
    have hmn:m<n:=by omega
    have x2:(m:Int)<(n:Int):=hm.2
    have hgt:=Iq n s1 hlt
    rw [hme,Int.toNat_natCast] at hgt
    have hent:Au s (S.take (j+1))=Au s (S.take j) ++ [s.E m]:=by
     unfold Au
     rw [List.take_succ_eq_append_getElem hlt,List.map_append,hme]
     rfl
    have hEm:(goAll n s1 (S.take j)).E m=s.E m:=by
     rw [Kw _ _ _ fun x hx e=>?_,hE1]
     obtain ⟨i,hi,e2⟩:=List.getElem_of_mem hx
     rw [List.length_take] at hi
     rw [List.getElem_take] at e2
     have h5:S[i]≠S[j]:=(List.pairwise_iff_getElem.1 (List.nodup_iff_pairwise_ne.1 hSd.out)) i j (by omega) hlt (by omega)
     have h6:=hSn.out S[i] (List.getElem_mem (by omega))
     rw [← e2] at e
     omega
    have c6:=hT.cells.1
    have GS:=GI hT m hmn (Gr _ _ (fun k hk=>by rw [hE1];exact hsl.out k hk) m hmn)
    rw [hEm] at GS
    replace GS:=Lib.hid GS
    have hlen:(Au s (S.take j)).length=j:=by unfold Au;simp;omega
    generalize Au s (S.take j)=out at *
    generalize s.E m=x at *
    replace hgt:=Lib.hid hgt
    replace hent:=Lib.hid hent
    replace hEm:=Lib.hid hEm
    replace hme:=Lib.hid hme
    replace hO:=Lib.hid hO
    replace hT:=Lib.hid hT
    clear hRj
    go_wp2_with (first
     | (go_at_call 167;(with_reducible refine GS.out.mono ?_);rintro e w3 ⟨rfl,X3,hT3,hc3,hX3⟩;have hz3:=hc3.size;have hO3:=hO.out.chg hc3 hAX)
     | (at_builtin;refine AV rfl (.tmp 32) (.tmp 41) rfl w1.heap.size A a out x j hlen rfl hO3 _ rfl rfl rfl (by omega) (by omega) ?_;intro A4 a4 w4 hO4 hp4))
    have hA3:∀ b,InB A b→¬ X3 b:=fun b hb hx=>by
     rcases hX3 b hx with h5 | h5
     · exact hAX b hb h5
     ·
      have:=(hO.out.block hb).2
      omega
    have hT4:=hT3.chg hp4.chg (fun b hx hb=>hA3 b hb hx)
    have hA4:∀ b,InB A4 b→¬ X3 b:=fun b hb hx=>by
     rcases hp4.new b hb with h5 | h5
     · exact hA3 b h5 hx
     ·
      have:=hT3.lt hx
      omega
    have hX4:∀ b,X3 b→X b∨w1.heap.size≤b:=fun b hx=>by
     rcases hX3 b hx with h5 | h5
     · exact hXj b h5
     · exact .inr (by omega)
    have hc4:Chg X w1 w4:=(hc.trans (G:=Xj) hc3 (fun b hb hx=>(hXj b hx).elim id fun h=>absurd h (by omega))).trans (G:=InB A) hp4.chg (fun b hb hx=>absurd (hO.out.block hx).1 (by omega))
    replace hT4:=Lib.hid hT4
    replace hA4:=Lib.hid hA4
    replace hX4:=Lib.hid hX4
    replace hc4:=Lib.hid hc4
    replace hO4:=Lib.hid hO4
    clear hT3 hc3 hX3 hA3 hp4 hO3 GS hT hO hAX hXj hc c6 cS
    go_wp2_with fail
    go_roundw
    case rel=>exact ⟨j+1,A4,a4,X3,by omega,by go_num,rfl,by rw [hent.out];exact hO4.out,by rw [hgt.out];exact hT4.out,hA4.out,hX4.out,hc4.out⟩
    case measure=>simp [intOf];omega
   ·
    obtain rfl:j=S.length:=by omega
    have hlti:¬ (S.length:Int)<(S.length:Int):=by omega
    rw [List.take_length] at hO hT
    have hTT:TabTo w wr g sb n c (goAll n s1 S) X:=⟨Xj,hT,hc1.trans (G:=X) hc (fun _ _ h=>h),fun b hx=>(hXj b hx).imp id (fun h=>Nat.le_trans hz1 h)⟩
    have hEl:(Au s S).length=S.length:=by unfold Au;simp
    have hO5:OwnE wr w.heap.size A a (Au s S):=OwnA.low hO hz1
    replace hTT:=Lib.hid hTT
    replace hO5:=Lib.hid hO5
    clear hRj hO hT hc hXj hAX
    go_wp2_with fail
    go_ret2
    refine ⟨A,a,S,by rw [hev.out,he.out];rfl,hGo.out,hO5.out,hSn.out,?_⟩
    have h5:=hTT.out
    rw [hs1.out] at h5
    exact h5
end
theorem NE:(Tryz.prog.info? 217).map (fun i=>(i.zero,i.size,i.bytes))=some (some (.pointer none),1,8):=by kernel_rfl
abbrev pcell (sb:Nat) (k:Nat):List Value:=[.pointer (some ⟨sb,k * 15,none⟩)]
abbrev OwnP (w:World) (base sb:Nat) (A:Option Addr) (c:Nat) (l:List Nat):Prop:=OwnA (pcell sb) 1 217 w base A c l
theorem DM {W:World} {sb:Nat} {cs:Array Value} {ops:Array Oper} {rest:List Oper} {o:Oper} {a:Act} {Q:Exit→Act→World→Prop} (hgd:o.guard=none) (s x:Operand)
  (ho:o.op=.call { callee:=.builtin .append,args:=#[s,x],argTypes:=#[232,232] })
  (base:Nat) (A:Option Addr) (c:Nat) (l:List Nat) (v:Nat) (n:Nat) (hn:l.length=n) (hs:a.eval s=.slice A n c) (hown:OwnP W base sb A c l) (g:Nat) (hg:g=W.heap.size) (hcs:(pcell sb v).toArray=cs)
  (hx:a.eval x=.slice (some ⟨g,0,none⟩) 1 1) (hl:l.length≤1000000) (hbase:base≤W.heap.size)
  (h:∀ A' c' w',OwnP w' base sb A' c' (l ++ [v])→Pushed W w' A A'→wpList Tryz.prog ops Q rest (a.put o.dst (.slice A' (n+1) c')) w'):wpList Tryz.prog ops Q (o :: rest) a (W.alloc (.cells cs 217)):=by
 obtain ⟨i0,hi0,hz0,hz1,hz2⟩:=info_parts NE
 exact CQ (pcell sb) 1 (fun _=>rfl) (fun b u hu=>by
  simp at hu;subst hu;rfl) (by omega) 232 i0 _ 8 Tryz.underlying232 hi0 hz0 hz1 hz2 rfl (by omega) hgd s x ho base A c l v n hn hs hown g hg hcs hx hl hbase h
def allL (E:Nat→Slt) (P:Slt→Bool) (n:Nat):List Nat:=(List.range n).filter fun k=>(E k).used && P (E k)
theorem F5 (E:Nat→Slt) (P:Slt→Bool) (k:Nat):allL E P (k+1)=if ((E k).used && P (E k))=true then allL E P k ++ [k] else allL E P k:=by
 unfold allL
 rw [List.range_succ,List.filter_append]
 split
 · next h=>simp only [List.filter_cons,List.filter_nil,h,if_true]
 · next h=>simp only [List.filter_cons,List.filter_nil,h,if_false,List.append_nil,Bool.false_eq_true]
theorem Eb (E:Nat→Slt) (P:Slt→Bool) (n:Nat):(allL E P n).length≤n:=by
 have:=List.length_filter_le (fun k=>(E k).used && P (E k)) (List.range n)
 unfold allL
 simpa using this
theorem live1 (x:Slt) (w:World):Calls Tryz.prog 175 #[x.val] w fun e w'=>e=.returned (.bool true)∧Below w.heap.size w w':=by
 go_enter Tryz.func175,Tryz.ntmps175
 go_wp2_with fail
 go_ret
 exact ⟨rfl,Aa (Below.refl _ _) _⟩
section
variable {w w1 w2 w3:World} {g sb n r:Nat} {c:TCfg} {s s':TSt} {X F:Nat→Prop}
set_option maxRecDepth 100000 in
set_option maxHeartbeats 4000000 in
theorem Kx (h:TabP w g sb n c s X) :
  Calls Tryz.prog 173 #[.pointer (some ⟨g,0,none⟩),.func (.func 175) #[] #[]] w fun e w'=>∃ (A:Option Addr) (q:Nat),e=.returned (.slice A (allL s.E (fun _=>true) n).length q)∧OwnP w' w.heap.size sb A q (allL s.E (fun _=>true) n)∧Below w.heap.size w w':=by
 obtain ⟨r1,r2,hn⟩:=h.rng
 have GV:=Lib.hid (Ea h)
 have c6:=h.cells.1
 replace h:=Lib.hid h
 go_enter Tryz.func173,Tryz.ntmps173
 go_wp2_with (go_at_call 144;(with_reducible refine GV.out.mono ?_);rintro e w8 ⟨rfl,rfl⟩)
 go_loopw [5,16] (fun ov kv wr=>∃ (k:Nat) (A:Option Addr) (a:Nat),k≤n∧kv=.int .i64 (k:Nat)∧ov=.slice A (allL s.E (fun _=>true) k).length a∧OwnP wr w.heap.size sb A a (allL s.E (fun _=>true) k)∧Below w.heap.size w wr) (fun _ kv _=>n - (intOf kv).toNat)
 case atStart=>exact ⟨0,none,0,by omega,rfl,rfl,OwnA.nil _ _,Below.refl _ _⟩
 case round =>
  obtain ⟨k,A,a,hk,rfl,rfl,hO,hb⟩:=hrel
  by_cases hlt:k<n
  ·
   have hlti:(k:Int)<(n:Int):=by omega
   have hT:=h.out.call hb
   have d6:=hT.cells.1
   have hC:=fun j hj=>hT.slot hlt j hj
   have hsu:=F5 s.E (fun _=>true) k
   rw [Bool.and_true] at hsu
   have hll:=Eb s.E (fun _=>true) k
   generalize allL s.E (fun _=>true) k=L at *
   generalize s.E k=x at *
   have c0:wr.cell? ⟨sb,k * 15,none⟩=some (.int .i64 x.t.p):=hC 0 (by omega)
   have c1:wr.cell? ⟨sb,k * 15+1,none⟩=some (.bool x.t.v):=hC 1 (by omega)
   have c2:wr.cell? ⟨sb,k * 15+2,none⟩=some (.int .u64 x.t.hi):=hC 2 (by omega)
   have c3:wr.cell? ⟨sb,k * 15+3,none⟩=some (.int .u64 x.t.lo):=hC 3 (by omega)
   have c4:wr.cell? ⟨sb,k * 15+4,none⟩=some (.bool x.t.v'):=hC 4 (by omega)
   have c5:wr.cell? ⟨sb,k * 15+5,none⟩=some (.int .u64 x.t.hi'):=hC 5 (by omega)
   have c6:wr.cell? ⟨sb,k * 15+6,none⟩=some (.int .u64 x.t.lo'):=hC 6 (by omega)
   have c7:wr.cell? ⟨sb,k * 15+7,none⟩=some (.int .i64 x.t.sp):=hC 7 (by omega)
   have c8:wr.cell? ⟨sb,k * 15+8,none⟩=some (.int .i64 x.t.dp):=hC 8 (by omega)
   have c9:wr.cell? ⟨sb,k * 15+9,none⟩=some (.int .i64 x.bk):=hC 9 (by omega)
   have c10:wr.cell? ⟨sb,k * 15+10,none⟩=some (.int .i64 x.st):=hC 10 (by omega)
   have c11:wr.cell? ⟨sb,k * 15+11,none⟩=some (.int .i64 x.sl):=hC 11 (by omega)
   have c12:wr.cell? ⟨sb,k * 15+12,none⟩=some (.int .u64 x.gen):=hC 12 (by omega)
   have c13:wr.cell? ⟨sb,k * 15+13,none⟩=some (.int .i64 x.due):=hC 13 (by omega)
   have c14:wr.cell? ⟨sb,k * 15+14,none⟩=some (.bool x.used):=hC 14 (by omega)
   have hz:=hb.size
   replace hsu:=Lib.hid hsu
   clear hC hT
   cases hu:x.used
   ·
    rw [hu] at hsu c14
    go_wp2_with fail
    go_roundw
    case rel=>exact ⟨k+1,A,a,by omega,by go_num,by rw [hsu.out];rfl,by rw [hsu.out];exact hO,hb⟩
    case measure=>simp [intOf];omega
   ·
    rw [hu] at hsu c14
    replace hO:=Lib.hid hO
    have LV:=Lib.hid (live1 x wr)
    go_wp2_with (first
     | (go_at_call 175;(with_reducible refine LV.out.mono ?_);rintro e w3 ⟨rfl,hb3⟩;have hz3:=hb3.size;have hb4:=A8 hb3 hb;have hO3:=hO.out.call hb3)
     | (at_builtin;refine DM rfl (.tmp 37) (.tmp 39) rfl w.heap.size A a L k L.length rfl rfl hO3 _ rfl rfl rfl (by omega) (by omega) ?_;intro A4 a4 w4 hO4 hp4))
    have hb5:Below w.heap.size w w4:=hp4.below hb4 (by omega) (fun b hb=>(hO3.block hb).1)
    go_roundw
    case rel=>exact ⟨k+1,A4,a4,by omega,by go_num,by rw [hsu.out,if_pos trivial,List.length_append];rfl,by rw [hsu.out,if_pos trivial];exact hO4,hb5⟩
    case measure=>simp [intOf];omega
  ·
   obtain rfl:k=n:=by omega
   have hlti:¬ (k:Int)<(k:Int):=by omega
   go_wp2_with fail
   go_ret
   exact ⟨A,a,rfl,hO,hb⟩
def Aq (E:Nat→Slt) (L:List Nat):List Slt:=L.map E
theorem Hw {E:Nat→Slt} {P:Slt→Bool} {n k:Nat} (h:k ∈ allL E P n):k<n:=by
 unfold allL at h
 exact List.mem_range.1 (List.mem_filter.1 h).1
theorem Q8 (sb:Nat) (l:List Nat):l.flatMap (pcell sb)=l.map fun k=>Value.pointer (some ⟨sb,k * 15,none⟩):=by induction l <;> simp_all
theorem Mb {base q:Nat} {A:Option Addr} {L:List Nat} (h:OwnP w base sb A q L) {j:Nat} (hj:j<L.length):∃ ad,A=some ad∧ad.block<w.heap.size∧w.cell? (ad.add j)=some (.pointer (some ⟨sb,L[j] * 15,none⟩)):=by
 have hr:=h.reads
 rw [Q8] at hr
 obtain ⟨ad,u,h1,h2,h3,h4⟩:=hr.at_ hj
 rw [List.getElem?_map,List.getElem?_eq_getElem hj] at h3
 cases h3
 exact ⟨ad,h1,h2,h4⟩
set_option maxRecDepth 100000 in
set_option maxHeartbeats 4000000 in
theorem Rj (h:TabP w g sb n c s X) :
  Calls Tryz.prog 95 #[.pointer (some ⟨g,0,none⟩)] w fun e w'=>∃ (A:Option Addr) (q:Nat),e=.returned (.slice A (Aq s.E (allL s.E (fun _=>true) n)).length q)∧OwnE w' w.heap.size A q (Aq s.E (allL s.E (fun _=>true) n))∧Below w.heap.size w w':=by
 obtain ⟨r1,r2,hn⟩:=h.rng
 have AL:=Lib.hid (Kx h)
 have hlt:=fun j (hj:j ∈ allL s.E (fun _=>true) n)=>Hw hj
 have hll:=Eb s.E (fun _=>true) n
 generalize allL s.E (fun _=>true) n=L at *
 replace h:=Lib.hid h
 replace hlt:=Lib.hid hlt
 go_enter Tryz.func95,Tryz.ntmps95
 go_wp2_with fail
 refine AL.out.mono ?_
 rintro e w1 ⟨B,q,rfl,hP,hb1⟩
 have hz1:=hb1.size
 replace hP:=Lib.hid hP
 clear AL
 go_wp2_with fail
 go_loopw [3,9] (fun ov kv wr=>∃ (k:Nat) (A:Option Addr) (a:Nat),k≤L.length∧kv=.int .i64 (k:Nat)∧ov=.slice A k a∧OwnE wr w1.heap.size A a (Aq s.E (L.take k))∧Below w1.heap.size w1 wr) (fun _ kv _=>L.length - (intOf kv).toNat)
 case atStart=>exact ⟨0,none,0,by omega,rfl,rfl,OwnA.nil _ _,Below.refl _ _⟩
 case round =>
  obtain ⟨k,A,a,hk,rfl,rfl,hO,hb⟩:=hrel
  by_cases hk2:k<L.length
  ·
   have hki:(k:Int)<(L.length:Int):=by omega
   obtain ⟨ad,rfl,hbl,cP⟩:=Mb (hP.out.call hb) hk2
   have hent:Aq s.E (L.take (k+1))=Aq s.E (L.take k) ++ [s.E L[k]]:=by
    unfold Aq
    rw [List.take_succ_eq_append_getElem hk2,List.map_append]
    rfl
   have hel:(Aq s.E (L.take k)).length=k:=by unfold Aq;simp;omega
   have hm:=hlt.out _ (List.getElem_mem hk2)
   obtain ⟨m,hme⟩:∃ m,L[k]=m:=⟨_,rfl⟩
   rw [hme] at cP hent hm
   have hT:=h.out.call (A8 hb hb1)
   have hC:=fun j hj=>hT.slot hm j hj
   generalize Aq s.E (L.take k)=out at *
   generalize s.E m=x at *
   have c0:wr.cell? ⟨sb,m * 15,none⟩=some (.int .i64 x.t.p):=hC 0 (by omega)
   have c1:wr.cell? ⟨sb,m * 15+1,none⟩=some (.bool x.t.v):=hC 1 (by omega)
   have c2:wr.cell? ⟨sb,m * 15+2,none⟩=some (.int .u64 x.t.hi):=hC 2 (by omega)
   have c3:wr.cell? ⟨sb,m * 15+3,none⟩=some (.int .u64 x.t.lo):=hC 3 (by omega)
   have c4:wr.cell? ⟨sb,m * 15+4,none⟩=some (.bool x.t.v'):=hC 4 (by omega)
   have c5:wr.cell? ⟨sb,m * 15+5,none⟩=some (.int .u64 x.t.hi'):=hC 5 (by omega)
   have c6:wr.cell? ⟨sb,m * 15+6,none⟩=some (.int .u64 x.t.lo'):=hC 6 (by omega)
   have c7:wr.cell? ⟨sb,m * 15+7,none⟩=some (.int .i64 x.t.sp):=hC 7 (by omega)
   have c8:wr.cell? ⟨sb,m * 15+8,none⟩=some (.int .i64 x.t.dp):=hC 8 (by omega)
   have c9:wr.cell? ⟨sb,m * 15+9,none⟩=some (.int .i64 x.bk):=hC 9 (by omega)
   have c10:wr.cell? ⟨sb,m * 15+10,none⟩=some (.int .i64 x.st):=hC 10 (by omega)
   have c11:wr.cell? ⟨sb,m * 15+11,none⟩=some (.int .i64 x.sl):=hC 11 (by omega)
   have c12:wr.cell? ⟨sb,m * 15+12,none⟩=some (.int .u64 x.gen):=hC 12 (by omega)
   have c13:wr.cell? ⟨sb,m * 15+13,none⟩=some (.int .i64 x.due):=hC 13 (by omega)
   have hz:=hb.size
   replace hent:=Lib.hid hent
   replace hme:=Lib.hid hme
   replace hO:=Lib.hid hO
   clear hC hT
   go_wp2_with (at_builtin;refine AV rfl (.tmp 13) (.tmp 18) rfl w1.heap.size A a out x k hel rfl hO.out _ rfl rfl rfl (by omega) (by omega) ?_;intro A4 a4 w4 hO4 hp4)
   have hb5:Below w1.heap.size w1 w4:=hp4.below hb (by omega) (fun b hb=>(hO.out.block hb).1)
   go_roundw
   case rel=>exact ⟨k+1,A4,a4,by omega,by go_num,rfl,by rw [hent.out];exact hO4,hb5⟩
   case measure=>simp [intOf];omega
  ·
   obtain rfl:k=L.length:=by omega
   have hki:¬ (L.length:Int)<(L.length:Int):=by omega
   rw [List.take_length] at hO
   have hel:(Aq s.E L).length=L.length:=by unfold Aq;simp
   replace hO:=Lib.hid hO
   go_wp2_with fail
   go_ret
   exact ⟨A,a,rfl,hO.out.low hz1,A8 hb hb1⟩
end
theorem drop1 (x:Slt) (bk:Int) (p:Nat) (w:World) (hp:w.cell? ⟨p,0,none⟩=some (.int .i64 bk)):Calls Tryz.prog 174 #[x.val,.pointer (some ⟨p,0,none⟩)] w fun e w'=>e=.returned (.bool (x.bk==bk))∧Below w.heap.size w w':=by
 have hne:¬ p=w.heap.size:=fun e=>by have h:=A0 hp;dsimp only at h;omega
 have hne2:¬ w.heap.size=p:=fun e=>hne e.symm
 go_enter Tryz.func174,Tryz.ntmps174
 go_upto_region 1 with fail
 have hb:Below w.heap.size w (w.alloc (.cells x.entA 52)):=Aa (Below.refl _ _) _
 have cp:=(hb.cell (A0 hp)).trans hp
 have c9:(w.alloc (.cells x.entA 52)).cell? ⟨w.heap.size,9,none⟩=some (.int .i64 x.bk):=(Blk.new w 52 x.entA).cell 9
 change Code.wp _ _ _ _ (w.alloc (.cells x.entA 52))
 generalize w.alloc (.cells x.entA 52)=w1 at *
 obtain ⟨q,hq⟩:∃ q,w.heap.size=q:=⟨_,rfl⟩
 rw [hq] at c9
 try rw [hq]
 replace hb:=Lib.hid hb
 replace hq:=Lib.hid hq
 go_wp2_with fail
 go_ret
 first | exact ⟨rfl,hb.out⟩ | exact ⟨rfl,hq.out ▸ hb.out⟩
section
variable {w w1 w2 w3:World} {g sb n r:Nat} {c:TCfg} {s s':TSt} {X F:Nat→Prop}
set_option maxRecDepth 100000 in
set_option maxHeartbeats 4000000 in
theorem Ky (h:TabP w g sb n c s X) (bk:Int) (p:Nat) (hp:w.cell? ⟨p,0,none⟩=some (.int .i64 bk)) :
  Calls Tryz.prog 173 #[.pointer (some ⟨g,0,none⟩),.func (.func 174) #[] #[.pointer (some ⟨p,0,none⟩)]] w fun e w'=>∃ (A:Option Addr) (q:Nat),e=.returned (.slice A (allL s.E (fun x=>x.bk==bk) n).length q)∧OwnP w' w.heap.size sb A q (allL s.E (fun x=>x.bk==bk) n)∧Below w.heap.size w w':=by
 obtain ⟨r1,r2,hn⟩:=h.rng
 have GV:=Lib.hid (Ea h)
 have c6:=h.cells.1
 replace h:=Lib.hid h
 go_enter Tryz.func173,Tryz.ntmps173
 go_wp2_with (go_at_call 144;(with_reducible refine GV.out.mono ?_);rintro e w8 ⟨rfl,rfl⟩)
 go_loopw [5,16] (fun ov kv wr=>∃ (k:Nat) (A:Option Addr) (a:Nat),k≤n∧kv=.int .i64 (k:Nat)∧ov=.slice A (allL s.E (fun x=>x.bk==bk) k).length a∧OwnP wr w.heap.size sb A a (allL s.E (fun x=>x.bk==bk) k)∧Below w.heap.size w wr) (fun _ kv _=>n - (intOf kv).toNat)
 case atStart=>exact ⟨0,none,0,by omega,rfl,rfl,OwnA.nil _ _,Below.refl _ _⟩
 case round =>
  obtain ⟨k,A,a,hk,rfl,rfl,hO,hb⟩:=hrel
  by_cases hlt:k<n
  ·
   have hlti:(k:Int)<(n:Int):=by omega
   have hT:=h.out.call hb
   have d6:=hT.cells.1
   have hC:=fun j hj=>hT.slot hlt j hj
   have hsu:=F5 s.E (fun x=>x.bk==bk) k
   have hll:=Eb s.E (fun x=>x.bk==bk) k
   generalize allL s.E (fun x=>x.bk==bk) k=L at *
   generalize s.E k=x at *
   have c0:wr.cell? ⟨sb,k * 15,none⟩=some (.int .i64 x.t.p):=hC 0 (by omega)
   have c1:wr.cell? ⟨sb,k * 15+1,none⟩=some (.bool x.t.v):=hC 1 (by omega)
   have c2:wr.cell? ⟨sb,k * 15+2,none⟩=some (.int .u64 x.t.hi):=hC 2 (by omega)
   have c3:wr.cell? ⟨sb,k * 15+3,none⟩=some (.int .u64 x.t.lo):=hC 3 (by omega)
   have c4:wr.cell? ⟨sb,k * 15+4,none⟩=some (.bool x.t.v'):=hC 4 (by omega)
   have c5:wr.cell? ⟨sb,k * 15+5,none⟩=some (.int .u64 x.t.hi'):=hC 5 (by omega)
   have c6:wr.cell? ⟨sb,k * 15+6,none⟩=some (.int .u64 x.t.lo'):=hC 6 (by omega)
   have c7:wr.cell? ⟨sb,k * 15+7,none⟩=some (.int .i64 x.t.sp):=hC 7 (by omega)
   have c8:wr.cell? ⟨sb,k * 15+8,none⟩=some (.int .i64 x.t.dp):=hC 8 (by omega)
   have c9:wr.cell? ⟨sb,k * 15+9,none⟩=some (.int .i64 x.bk):=hC 9 (by omega)
   have c10:wr.cell? ⟨sb,k * 15+10,none⟩=some (.int .i64 x.st):=hC 10 (by omega)
   have c11:wr.cell? ⟨sb,k * 15+11,none⟩=some (.int .i64 x.sl):=hC 11 (by omega)
   have c12:wr.cell? ⟨sb,k * 15+12,none⟩=some (.int .u64 x.gen):=hC 12 (by omega)
   have c13:wr.cell? ⟨sb,k * 15+13,none⟩=some (.int .i64 x.due):=hC 13 (by omega)
   have c14:wr.cell? ⟨sb,k * 15+14,none⟩=some (.bool x.used):=hC 14 (by omega)
   have hz:=hb.size
   have hp2:wr.cell? ⟨p,0,none⟩=some (.int .i64 bk):=(hb.cell (A0 hp)).trans hp
   clear hC hT
   cases hu:x.used
   ·
    rw [hu] at hsu c14
    replace hsu:=Lib.hid hsu
    go_wp2_with fail
    go_roundw
    case rel=>exact ⟨k+1,A,a,by omega,by go_num,by rw [hsu.out];rfl,by rw [hsu.out];exact hO,hb⟩
    case measure=>simp [intOf];omega
   ·
    rw [hu] at hsu c14
    replace hO:=Lib.hid hO
    replace hp2:=Lib.hid hp2
    have LV:=Lib.hid (drop1 x bk p wr hp2.out)
    rw [Bool.true_and] at hsu
    obtain ⟨bb,hbb⟩:∃ bb,(x.bk==bk)=bb:=⟨_,rfl⟩
    rw [hbb] at LV hsu
    replace hsu:=Lib.hid hsu
    replace hbb:=Lib.hid hbb
    cases bb
    ·
     go_wp2_with (go_at_call 174;(with_reducible refine LV.out.mono ?_);rintro e w3 ⟨rfl,hb3⟩;have hb4:=A8 hb3 hb;have hO3:=hO.out.call hb3)
     go_roundw
     case rel=>exact ⟨k+1,A,a,by omega,by go_num,by rw [hsu.out];rfl,by rw [hsu.out];exact hO3,hb4⟩
     case measure=>simp [intOf];omega
    ·
     go_wp2_with (first
      | (go_at_call 174;(with_reducible refine LV.out.mono ?_);rintro e w3 ⟨rfl,hb3⟩;have hz3:=hb3.size;have hb4:=A8 hb3 hb;have hO3:=hO.out.call hb3)
      | (at_builtin;refine DM rfl (.tmp 37) (.tmp 39) rfl w.heap.size A a L k L.length rfl rfl hO3 _ rfl rfl rfl (by omega) (by omega) ?_;intro A4 a4 w4 hO4 hp4))
     have hb5:Below w.heap.size w w4:=hp4.below hb4 (by omega) (fun b hb=>(hO3.block hb).1)
     go_roundw
     case rel=>exact ⟨k+1,A4,a4,by omega,by go_num,by rw [hsu.out,if_pos trivial,List.length_append];rfl,by rw [hsu.out,if_pos trivial];exact hO4,hb5⟩
     case measure=>simp [intOf];omega
  ·
   obtain rfl:k=n:=by omega
   have hlti:¬ (k:Int)<(k:Int):=by omega
   go_wp2_with fail
   go_ret
   exact ⟨A,a,rfl,hO,hb⟩
def dropS (n:Nat) (s:TSt) (L:List Nat):TSt:=L.foldl (fun s k=>goS n s k) s
theorem Ir (n:Nat) (s:TSt) {L:List Nat} {k:Nat} (hk:k<L.length):dropS n s (L.take (k+1))=goS n (dropS n s (L.take k)) L[k]:=by
 unfold dropS
 rw [List.take_succ_eq_append_getElem hk,List.foldl_append]
 rfl
theorem Rk {n:Nat} {s:TSt} {x:Nat} (h:∀ k:Nat,k<n→(s.E k).sl=k):∀ k:Nat,k<n→((goS n s x).E k).sl=k:=fun k hk=>by
 show (updE s.E x (clrS (s.E x)) k).sl=k
 unfold updE
 split
 ·
  next e =>
  subst e
  exact h _ hk
 · exact h k hk
theorem Mc {n:Nat}:∀ (L:List Nat) (s:TSt),(∀ k:Nat,k<n→(s.E k).sl=k)→∀ k:Nat,k<n→((dropS n s L).E k).sl=k
 | [],_,h=>h
 | _ :: L,_,h=>Mc L _ (Rk h)
theorem OX {n:Nat}:∀ (L:List Nat) (s:TSt) (k:Nat),k ∉ L→(dropS n s L).E k=s.E k
 | [],_,_,_=>rfl
 | x :: L,s,k,h=>by
  refine (OX L (goS n s x) k fun hk=>h (List.mem_cons_of_mem _ hk)).trans ?_
  show updE s.E x (clrS (s.E x)) k=s.E k
  exact AP _ _ (fun e=>h (by rw [e];exact List.mem_cons_self))
theorem FC (E:Nat→Slt) (P:Slt→Bool) (n:Nat):(allL E P n).Nodup:=by
 unfold allL
 exact List.Pairwise.filter _ List.nodup_range
set_option maxRecDepth 100000 in
set_option maxHeartbeats 4000000 in
theorem Rl (h:TabP w g sb n c s X) (hsl:∀ k:Nat,k<n→(s.E k).sl=k) (bk:Int) :
  Calls Tryz.prog 93 #[.pointer (some ⟨g,0,none⟩),.int .i64 bk] w fun e w'=>∃ (A:Option Addr) (q:Nat),e=.returned (.slice A (Aq s.E (allL s.E (fun x=>x.bk==bk) n)).length q)∧OwnE w' w.heap.size A q (Aq s.E (allL s.E (fun x=>x.bk==bk) n))∧TabTo w w' g sb n c (dropS n s (allL s.E (fun x=>x.bk==bk) n)) X:=by
 obtain ⟨r1,r2,hn⟩:=h.rng
 have hXlt:∀ b,X b→b<w.heap.size:=fun b hb=>h.lt hb
 have hb0:Below w.heap.size w (w.alloc (.cells #[.int .i64 bk] 3)):=Aa (Below.refl _ _) _
 have AL:=Lib.hid (Ky (h.call hb0) bk w.heap.size ((Blk.new w 3 #[.int .i64 bk]).cell 0))
 have hlt:=fun j (hj:j ∈ allL s.E (fun x=>x.bk==bk) n)=>Hw hj
 have hll:=Eb s.E (fun x=>x.bk==bk) n
 have hnd:=FC s.E (fun x=>x.bk==bk) n
 generalize allL s.E (fun x=>x.bk==bk) n=L at *
 replace h:=Lib.hid h
 replace hsl:=Lib.hid hsl
 replace hlt:=Lib.hid hlt
 replace hnd:=Lib.hid hnd
 replace hXlt:=Lib.hid hXlt
 go_enter Tryz.func93,Tryz.ntmps93
 go_wp2_with fail
 refine AL.out.mono ?_
 rintro e w1 ⟨B,q,rfl,hP,hb1⟩
 have hb2:=A8 hb1 hb0
 have hz2:=hb2.size
 have hz0:=hb0.size
 have h1:=h.out.call hb2
 have hBn:∀ b,InB B b→w.heap.size≤b:=fun b hb=>Nat.le_trans hz0 (hP.block hb).1
 replace hP:=Lib.hid hP
 replace h1:=Lib.hid h1
 clear AL hb1
 go_wp2_with fail
 go_loopw [5,12] (fun ov kv wr=>∃ (j:Nat) (A:Option Addr) (a:Nat) (Xj:Nat→Prop),j≤L.length∧kv=.int .i64 (j:Nat)∧ov=.slice A j a∧OwnE wr w1.heap.size A a (Aq s.E (L.take j))∧TabP wr g sb n c (dropS n s (L.take j)) Xj∧(∀ b,InB A b→¬ Xj b)∧(∀ b,Xj b→X b∨w1.heap.size≤b)∧Chg X w1 wr) (fun _ kv _=>L.length - (intOf kv).toNat)
 case atStart=>exact ⟨0,none,0,X,by omega,rfl,rfl,OwnA.nil _ _,h1.out,fun b hb=>absurd hb Ba,fun b hb=>.inl hb,Chg.refl _ _⟩
 case round =>
  obtain ⟨j,A,a,Xj,hj,rfl,rfl,hO,hT,hAX,hXj,hc⟩:=hrel
  have hzr:=hc.size
  have hPr:OwnP wr (w.alloc (.cells #[.int .i64 bk] 3)).heap.size sb B q L:=OwnA.chg hP.out hc (fun b hb hx=>by have h5:=hBn b hb;have h6:=hXlt.out b hx;omega)
  by_cases hlt2:j<L.length
  ·
   have hlti:(j:Int)<(L.length:Int):=by omega
   obtain ⟨ad,rfl,hbl,cP⟩:=Mb hPr hlt2
   obtain ⟨m,hme⟩:∃ m,L[j]=m:=⟨_,rfl⟩
   have hmn:=hlt.out _ (List.getElem_mem hlt2)
   have hgt:=Ir n s hlt2
   have hent:Aq s.E (L.take (j+1))=Aq s.E (L.take j) ++ [s.E L[j]]:=by
    unfold Aq
    rw [List.take_succ_eq_append_getElem hlt2,List.map_append]
    rfl
   have hEm:(dropS n s (L.take j)).E L[j]=s.E L[j]:=by
    refine OX _ _ _ fun hx=>?_
    obtain ⟨i,hi,e2⟩:=List.getElem_of_mem hx
    rw [List.length_take] at hi
    rw [List.getElem_take] at e2
    exact (List.pairwise_iff_getElem.1 (List.nodup_iff_pairwise_ne.1 hnd.out)) i j (by omega) hlt2 (by omega) e2
   rw [hme] at cP hmn hgt hent hEm
   have GS:=GI hT m hmn (Mc _ _ hsl.out m hmn)
   rw [hEm] at GS
   replace GS:=Lib.hid GS
   have hlen:(Aq s.E (L.take j)).length=j:=by unfold Aq;simp;omega
   generalize Aq s.E (L.take j)=out at *
   generalize s.E m=x at *
   replace hgt:=Lib.hid hgt
   replace hent:=Lib.hid hent
   replace hEm:=Lib.hid hEm
   replace hme:=Lib.hid hme
   replace hO:=Lib.hid hO
   replace hT:=Lib.hid hT
   clear hPr
   go_wp2_with (first
    | (go_at_call 167;(with_reducible refine GS.out.mono ?_);rintro e w3 ⟨rfl,X3,hT3,hc3,hX3⟩;have hz3:=hc3.size;have hO3:=hO.out.chg hc3 hAX)
    | (at_builtin;refine AV rfl (.tmp 16) (.tmp 20) rfl w1.heap.size A a out x j hlen rfl hO3 _ rfl rfl rfl (by omega) (by omega) ?_;intro A4 a4 w4 hO4 hp4))
   have hA3:∀ b,InB A b→¬ X3 b:=fun b hb hx=>by
    rcases hX3 b hx with h5 | h5
    · exact hAX b hb h5
    ·
     have:=(hO.out.block hb).2
     omega
   have hT4:=hT3.chg hp4.chg (fun b hx hb=>hA3 b hb hx)
   have hA4:∀ b,InB A4 b→¬ X3 b:=fun b hb hx=>by
    rcases hp4.new b hb with h5 | h5
    · exact hA3 b h5 hx
    ·
     have:=hT3.lt hx
     omega
   have hX4:∀ b,X3 b→X b∨w1.heap.size≤b:=fun b hx=>by
    rcases hX3 b hx with h5 | h5
    · exact hXj b h5
    · exact .inr (by omega)
   have hc4:Chg X w1 w4:=(hc.trans (G:=Xj) hc3 (fun b hb hx=>(hXj b hx).elim id fun h=>absurd h (by omega))).trans (G:=InB A) hp4.chg (fun b hb hx=>absurd (hO.out.block hx).1 (by omega))
   replace hT4:=Lib.hid hT4
   replace hA4:=Lib.hid hA4
   replace hX4:=Lib.hid hX4
   replace hc4:=Lib.hid hc4
   replace hO4:=Lib.hid hO4
   clear hT3 hc3 hX3 hA3 hp4 hO3 GS hT hO hAX hXj hc cP
   go_wp2_with fail
   go_roundw
   case rel=>exact ⟨j+1,A4,a4,X3,by omega,by go_num,rfl,by rw [hent.out];exact hO4.out,by rw [hgt.out];exact hT4.out,hA4.out,hX4.out,hc4.out⟩
   case measure=>simp [intOf];omega
  ·
   obtain rfl:j=L.length:=by omega
   have hlti:¬ (L.length:Int)<(L.length:Int):=by omega
   rw [List.take_length] at hO hT
   have hTT:TabTo w wr g sb n c (dropS n s L) X:=⟨Xj,hT,(Chg.of_below hb2).trans (G:=X) hc (fun _ _ h=>h),fun b hx=>(hXj b hx).imp id (fun h=>Nat.le_trans hz2 h)⟩
   have hEl:(Aq s.E L).length=L.length:=by unfold Aq;simp
   have hO5:OwnE wr w.heap.size A a (Aq s.E L):=OwnA.low hO hz2
   replace hTT:=Lib.hid hTT
   replace hO5:=Lib.hid hO5
   clear hPr hO hT hc hXj hAX
   go_wp2_with fail
   go_ret
   exact ⟨A,a,rfl,hO5.out,hTT.out⟩
end
end Go.Proofs.YteklkljndchjiaaGreat
