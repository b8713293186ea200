/- table: tables that nobody made. table: the chapter's example, called. -/
import Derived.Test.YteklkljndchjiaaGreatJ31
namespace Go.Proofs.YteklkljndchjiaaGreat
open Go Go.RowKit Go.Deep Go.Maps Go.ChangeMaps
section
variable {w w1 w2 w3:World} {g:Nat}
set_option maxRecDepth 100000 in
set_option maxHeartbeats 4000000 in
theorem Kz (t:Tup) (bk fl:Int) (w:World):Calls Tryz.prog 80 #[.pointer none,t.val,.int .i64 bk,.int .i64 fl] w fun e w'=>e=.returned (.tuple #[slt0.val,.int .i64 1])∧Below w.heap.size w w':=by
 have hb0:Below w.heap.size w (w.alloc (.cells t.cells.toArray 47)):=Aa (Below.refl _ _) _
 have P0:=Blk.new w 47 t.cells.toArray
 have B1:=Blk.new (w.alloc (.cells t.cells.toArray 47)) 52 slt0.entA
 have P1:=P0.alloc (.cells slt0.entA 52)
 have hb1:Below w.heap.size w ((w.alloc (.cells t.cells.toArray 47)).alloc (.cells slt0.entA 52)):=Aa hb0 _
 rw [World.size_alloc] at B1
 clear hb0 P0
 replace B1:=Lib.hid B1
 go_enter Tryz.func80,Tryz.ntmps80
 go_upto_region 1 with fail
 change Code.wp _ _ _ _ ((w.alloc (.cells t.cells.toArray 47)).alloc (.cells slt0.entA 52))
 obtain ⟨r,hr⟩:∃ r,w.heap.size+1=r:=⟨_,rfl⟩
 obtain ⟨p,hp⟩:∃ p,w.heap.size=p:=⟨_,rfl⟩
 rw [hr] at B1
 rw [hp] at P1
 generalize (w.alloc (.cells t.cells.toArray 47)).alloc (.cells slt0.entA 52)=w1 at *
 try rw [hr]
 try rw [hp]
 have BG:=Lib.hid fun W=>Jo t.p fl W
 have p0:w1.cell? ⟨p,0,none⟩=some (.int .i64 t.p):=P1.cell 0
 clear P1
 have B2:=B1
 have hbW:=hb1
 obtain ⟨r0,r1,r2,r3,r4,r5,r6,r7,r8,r9,r10,r11,r12,r13,rf⟩:=AB B2.out
 go_wp2_with (first
  | (go_at_call 143;(with_reducible refine (BG.out _).mono ?_);rintro e w8 ⟨rfl,rfl⟩)
  | (go_at_call 144;(with_reducible refine (Jc _).mono ?_);rintro e w8 ⟨rfl,rfl⟩))
 change bodyPost _ _ _ _ _ (Ac w1 r slt0)
 obtain ⟨B6,hc6⟩:=Ab B2.out slt0
 have hb6:Below w.heap.size w (Ac w1 r slt0):=Ar hbW hc6 (fun b hb e=>by have e2:b=r:=e;omega) hbW.size
 generalize Ac w1 r slt0=w6 at *
 clear r0 r1 r2 r3 r4 r5 r6 r7 r8 r9 r10 r11 r12 r13 rf
 obtain ⟨r0,r1,r2,r3,r4,r5,r6,r7,r8,r9,r10,r11,r12,r13,-⟩:=AB B6
 clear B6 hc6
 replace hb6:=Lib.hid hb6
 refine bodyPost_ret (v:=.tuple #[(slt0).val,.int .i64 1]) (by simp [results,Tryz.results80,go_sem,r0,r1,r2,r3,r4,r5,r6,r7,r8,r9,r10,r11,r12,r13]) rfl ?_
 exact ⟨rfl,by have:=hb6.out;rwa [hp] at *⟩
end
theorem NI {a b c d G:Int} (h:Du a b c d=true):TCfg.right ⟨a,b,c,d,G⟩:=by
 intro st
 unfold Du okT at h
 simp at h
 show 0≤idleS a b c d st∧idleS a b c d st≤1048576
 unfold idleS
 repeat' split
 all_goals omega
end Go.Proofs.YteklkljndchjiaaGreat
