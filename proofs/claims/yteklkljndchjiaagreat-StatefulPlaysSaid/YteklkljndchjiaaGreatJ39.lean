/- tables: of, Cookie, Free. -/
import Derived.Test.YteklkljndchjiaaGreatJ33
import Derived.Test.YteklkljndchjiaaGreatJ24
import Derived.Test.YteklkljndchjiaaGreatJ25
import Derived.Test.YteklkljndchjiaaGreatJ9
namespace Go.Proofs.YteklkljndchjiaaGreat
open Go Go.RowKit Go.Deep Go.Maps Go.ChangeMaps
set_option maxRecDepth 100000 in
set_option maxHeartbeats 2000000 in
theorem Dy (g pb p q:Nat) (W:World) (hc:W.cell? ⟨g,11,none⟩=some (.slice (some ⟨pb,0,none⟩) p q)) (hp:1≤p):Calls Tryz.prog 83 #[.pointer (some ⟨g,0,none⟩)] W fun e w'=>e=.returned (.bool true)∧W=w':=by
 have x1:decide ((0:Int)<(p:Int))=true:=by simp;omega
 have x2:decide (0<p)=true:=by simp;omega
 go_enter Tryz.func83,Tryz.ntmps83
 go_wp2_with fail
 go_ret
 exact ⟨rfl,rfl⟩
def pIx (r:TRule) (t:Tup):Nat:=(partI r.ka r.kb t r.np).toNat
theorem Eu (r:TRule) (t:Tup) {p:Nat} (hp:r.np=(p:Int)) (h1:1≤p) (h2:p≤16):partI r.ka r.kb t r.np=(pIx r t:Int)∧pIx r t<p:=by
 have h:=Ra r.ka r.kb t r.np (by unfold mayB;rw [hp];simp;omega)
 unfold pIx
 omega
structure TRead (w:World) (g pb q p:Nat) (r:TRule) (gs:Nat→Nat):Prop where
 c0:w.cell? ⟨g,0,none⟩=some (.bool r.wd)
 c1:w.cell? ⟨g,1,none⟩=some (.int .i64 r.sl)
 c2:w.cell? ⟨g,2,none⟩=some (.int .i64 r.gn)
 c3:w.cell? ⟨g,3,none⟩=some (.int .u64 r.ka)
 c4:w.cell? ⟨g,4,none⟩=some (.int .u64 r.kb)
 c5:w.cell? ⟨g,5,none⟩=some (.int .i64 r.np)
 c11:w.cell? ⟨g,11,none⟩=some (.slice (some ⟨pb,0,none⟩) p q)
 ps:∀ i,i<p→w.cell? ⟨pb,i,none⟩=some (.pointer (some ⟨gs i,0,none⟩))
 np:r.np=(p:Int)
 p1:1≤p
 p16:p≤16
section
variable {w w':World} {g pb q p n:Nat} {r:TRule} {gs:Nat→Nat} {S:Nat→TSt} {X F:Nat→Prop}
theorem TRead.chg (h:TRead w g pb q p r gs) (k:Chg F w w') (h1:¬ F g) (h2:¬ F pb):TRead w' g pb q p r gs :=
 ⟨(Af k (A0 h.c0) h1).trans h.c0,(Af k (A0 h.c1) h1).trans h.c1,(Af k (A0 h.c2) h1).trans h.c2,(Af k (A0 h.c3) h1).trans h.c3,(Af k (A0 h.c4) h1).trans h.c4,(Af k (A0 h.c5) h1).trans h.c5,(Af k (A0 h.c11) h1).trans h.c11,
  fun i hi=>(Af k (A0 (h.ps i hi)) h2).trans (h.ps i hi),h.np,h.p1,h.p16⟩
theorem TRead.call (h:TRead w g pb q p r gs) (hb:Below w.heap.size w w'):TRead w' g pb q p r gs:=h.chg (F:=fun _=>False) (Chg.of_below hb) (fun h=>h) (fun h=>h)
theorem TabsW.read {sbs:Nat→Nat} {Xs:Nat→Nat→Prop} (h:TabsW w g r p n S X pb q gs sbs Xs):TRead w g pb q p r gs:=⟨h.blk.cell 0,h.blk.cell 1,h.blk.cell 2,h.blk.cell 3,h.blk.cell 4,h.blk.cell 5,h.blk.cell 11,h.ps,h.np,h.p1,h.p16⟩
set_option maxRecDepth 100000 in
set_option maxHeartbeats 4000000 in
theorem KH (h:TRead w g pb q p r gs) (t:Tup):Calls Tryz.prog 79 #[.pointer (some ⟨g,0,none⟩),t.val] w fun e w'=>e=.returned (.pointer (some ⟨gs (pIx r t),0,none⟩))∧Below w.heap.size w w':=by
 obtain ⟨hpe,hpl⟩:=Eu r t h.np h.p1 h.p16
 have PO:=Lib.hid fun W=>Sq r.ka r.kb t r.np W
 rw [hpe] at PO
 generalize pIx r t=i at *
 have B:=Blk.new w 47 t.cells.toArray
 have hb0:Below w.heap.size w (w.alloc (.cells t.cells.toArray 47)):=Aa (Below.refl _ _) _
 have h1:=h.call hb0
 have hli:(i:Int)<(p:Int):=by omega
 have hli0:(0:Int)≤(i:Int):=by omega
 clear h hpe
 obtain ⟨ka,hka⟩:∃ k,r.ka=k:=⟨_,rfl⟩
 obtain ⟨kb,hkb⟩:∃ k,r.kb=k:=⟨_,rfl⟩
 obtain ⟨np,hnp⟩:∃ k,r.np=k:=⟨_,rfl⟩
 rw [hka,hkb,hnp] at PO
 obtain ⟨tp,v,hi,lo,v',hi',lo',sp,dp⟩:=t
 go_enter Tryz.func79,Tryz.ntmps79
 go_upto_region 1 with fail
 change Code.wp _ _ _ _ (w.alloc (.cells (Tup.cells ⟨tp,v,hi,lo,v',hi',lo',sp,dp⟩).toArray 47))
 generalize w.alloc (.cells (Tup.cells ⟨tp,v,hi,lo,v',hi',lo',sp,dp⟩).toArray 47)=w1 at *
 obtain ⟨b,hb⟩:∃ b,w.heap.size=b:=⟨_,rfl⟩
 rw [hb] at B
 try rw [hb]
 have GV:=Dy g pb p q w1 h1.c11 h1.p1
 have c3:=h1.c3
 have c4:=h1.c4
 have c5:=h1.c5
 rw [hka] at c3
 rw [hkb] at c4
 rw [hnp] at c5
 have c11:=h1.c11
 have ci:=h1.ps i hpl
 have t0:w1.cell? ⟨b,0,none⟩=some (.int .i64 tp):=B.cell 0
 have t1:w1.cell? ⟨b,1,none⟩=some (.bool v):=B.cell 1
 have t2:w1.cell? ⟨b,2,none⟩=some (.int .u64 hi):=B.cell 2
 have t3:w1.cell? ⟨b,3,none⟩=some (.int .u64 lo):=B.cell 3
 have t4:w1.cell? ⟨b,4,none⟩=some (.bool v'):=B.cell 4
 have t5:w1.cell? ⟨b,5,none⟩=some (.int .u64 hi'):=B.cell 5
 have t6:w1.cell? ⟨b,6,none⟩=some (.int .u64 lo'):=B.cell 6
 have t7:w1.cell? ⟨b,7,none⟩=some (.int .i64 sp):=B.cell 7
 have t8:w1.cell? ⟨b,8,none⟩=some (.int .i64 dp):=B.cell 8
 replace GV:=Lib.hid GV
 clear B h1
 go_upto_region 3 with (go_at_call 83;(with_reducible refine GV.out.mono ?_);rintro e w2 ⟨rfl,rfl⟩)
 go_region_held3 (fun W=>Below w1.heap.size w1 W∧W.cell? ⟨g,3,none⟩=some (.int .u64 ka)∧W.cell? ⟨g,4,none⟩=some (.int .u64 kb)∧W.cell? ⟨g,5,none⟩=some (.int .i64 np)∧W.cell? ⟨g,11,none⟩=some (.slice (some ⟨pb,0,none⟩) p q)∧W.cell? ⟨pb,i,none⟩=some (.pointer (some ⟨gs i,0,none⟩)) ∧
   W.cell? ⟨b,0,none⟩=some (.int .i64 tp)∧W.cell? ⟨b,1,none⟩=some (.bool v)∧W.cell? ⟨b,2,none⟩=some (.int .u64 hi)∧W.cell? ⟨b,3,none⟩=some (.int .u64 lo)∧W.cell? ⟨b,4,none⟩=some (.bool v')∧W.cell? ⟨b,5,none⟩=some (.int .u64 hi')∧W.cell? ⟨b,6,none⟩=some (.int .u64 lo')∧W.cell? ⟨b,7,none⟩=some (.int .i64 sp)∧W.cell? ⟨b,8,none⟩=some (.int .i64 dp))
  (first | assumption | exact ⟨(Below.refl _ _).drew,by refine ⟨?_,?_,?_,?_,?_,?_,?_,?_,?_,?_,?_,?_,?_,?_⟩ <;> assumption⟩) (first
  | (go_at_call 142;(with_reducible refine (PO.out _).mono ?_);rintro e w4 ⟨rfl,hb4⟩;have hk4:=DY (by assumption) hb4))
 go_wp2_with fail
 go_ret
 exact ⟨rfl,A8 (And.left (by assumption)) hb0⟩
set_option maxRecDepth 100000 in
set_option maxHeartbeats 4000000 in
theorem Hi (h:TRead w g pb q p r gs) (x:Slt) (hx:0≤x.gen∧x.gen<18446744073709551616):Calls Tryz.prog 32 #[.pointer (some ⟨g,0,none⟩),x.val] w fun e w'=>e=.returned (.int .u64 (makeI r.wd r.sl r.gn r.ka r.kb x.t x.sl x.gen))∧Below w.heap.size w w':=by
 obtain ⟨t,bk,st,sl,gen,due,us⟩:=x
 obtain ⟨gn,rfl⟩:∃ gn:Nat,gen=gn:=⟨gen.toNat,by have:=hx.1;simp only at this;omega⟩
 have hgn:gn<18446744073709551616:=by have:=hx.2;simp only at this;omega
 have MK:=Lib.hid fun W=>Ss r.wd r.sl r.gn r.ka r.kb t sl gn hgn W
 have B:=Blk.new w 52 (Slt.ent ⟨t,bk,st,sl,gn,due,us⟩).toArray
 have hb0:Below w.heap.size w (w.alloc (.cells (Slt.ent ⟨t,bk,st,sl,gn,due,us⟩).toArray 52)):=Aa (Below.refl _ _) _
 have h1:=h.call hb0
 show Calls _ _ _ _ fun e w'=>e=.returned (.int .u64 (makeI r.wd r.sl r.gn r.ka r.kb t sl gn))∧Below w.heap.size w w'
 clear h hx hgn
 obtain ⟨mk,hmk⟩:∃ m,makeI r.wd r.sl r.gn r.ka r.kb t sl gn=m:=⟨_,rfl⟩
 obtain ⟨po,hpo⟩:∃ m,Bb r.wd r.sl r.gn sl=m:=⟨_,rfl⟩
 rw [hmk,hpo] at MK
 rw [hmk]
 clear hmk hpo
 obtain ⟨wd,hwd⟩:∃ k,r.wd=k:=⟨_,rfl⟩
 obtain ⟨ls,hls⟩:∃ k,r.sl=k:=⟨_,rfl⟩
 obtain ⟨lg,hlg⟩:∃ k,r.gn=k:=⟨_,rfl⟩
 obtain ⟨ka,hka⟩:∃ k,r.ka=k:=⟨_,rfl⟩
 obtain ⟨kb,hkb⟩:∃ k,r.kb=k:=⟨_,rfl⟩
 rw [hwd,hls,hlg,hka,hkb] at MK
 obtain ⟨tp,v,hi,lo,v',hi',lo',sp,dp⟩:=t
 go_enter Tryz.func32,Tryz.ntmps32
 go_upto_region 1 with fail
 change Code.wp _ _ _ _ (w.alloc (.cells (Slt.ent ⟨⟨tp,v,hi,lo,v',hi',lo',sp,dp⟩,bk,st,sl,gn,due,us⟩).toArray 52))
 generalize w.alloc (.cells (Slt.ent ⟨⟨tp,v,hi,lo,v',hi',lo',sp,dp⟩,bk,st,sl,gn,due,us⟩).toArray 52)=w1 at *
 obtain ⟨b,hb⟩:∃ b,w.heap.size=b:=⟨_,rfl⟩
 rw [hb] at B
 try rw [hb]
 have GV:=Dy g pb p q w1 h1.c11 h1.p1
 have g0:=h1.c0
 have g1:=h1.c1
 have g2:=h1.c2
 have g3:=h1.c3
 have g4:=h1.c4
 rw [hwd] at g0
 rw [hls] at g1
 rw [hlg] at g2
 rw [hka] at g3
 rw [hkb] at g4
 have t0:w1.cell? ⟨b,0,none⟩=some (.int .i64 tp):=B.cell 0
 have t1:w1.cell? ⟨b,1,none⟩=some (.bool v):=B.cell 1
 have t2:w1.cell? ⟨b,2,none⟩=some (.int .u64 hi):=B.cell 2
 have t3:w1.cell? ⟨b,3,none⟩=some (.int .u64 lo):=B.cell 3
 have t4:w1.cell? ⟨b,4,none⟩=some (.bool v'):=B.cell 4
 have t5:w1.cell? ⟨b,5,none⟩=some (.int .u64 hi'):=B.cell 5
 have t6:w1.cell? ⟨b,6,none⟩=some (.int .u64 lo'):=B.cell 6
 have t7:w1.cell? ⟨b,7,none⟩=some (.int .i64 sp):=B.cell 7
 have t8:w1.cell? ⟨b,8,none⟩=some (.int .i64 dp):=B.cell 8
 have t11:w1.cell? ⟨b,11,none⟩=some (.int .i64 sl):=B.cell 11
 have t12:w1.cell? ⟨b,12,none⟩=some (.int .u64 (gn:Int)):=B.cell 12
 replace GV:=Lib.hid GV
 clear B h1 hwd hls hlg hka hkb
 go_upto_region 3 with (go_at_call 83;(with_reducible refine GV.out.mono ?_);rintro e w2 ⟨rfl,rfl⟩)
 go_region_held3 (fun W=>Below w1.heap.size w1 W∧W.cell? ⟨g,0,none⟩=some (.bool wd)∧W.cell? ⟨g,1,none⟩=some (.int .i64 ls)∧W.cell? ⟨g,2,none⟩=some (.int .i64 lg)∧W.cell? ⟨g,3,none⟩=some (.int .u64 ka)∧W.cell? ⟨g,4,none⟩=some (.int .u64 kb)∧W.cell? ⟨b,0,none⟩=some (.int .i64 tp)∧W.cell? ⟨b,1,none⟩=some (.bool v)∧W.cell? ⟨b,2,none⟩=some (.int .u64 hi)∧W.cell? ⟨b,3,none⟩=some (.int .u64 lo)∧W.cell? ⟨b,4,none⟩=some (.bool v')∧W.cell? ⟨b,5,none⟩=some (.int .u64 hi')∧W.cell? ⟨b,6,none⟩=some (.int .u64 lo')∧W.cell? ⟨b,7,none⟩=some (.int .i64 sp)∧W.cell? ⟨b,8,none⟩=some (.int .i64 dp)∧W.cell? ⟨b,11,none⟩=some (.int .i64 sl)∧W.cell? ⟨b,12,none⟩=some (.int .u64 (gn:Int)))
  (first | assumption | exact ⟨(Below.refl _ _).drew,by refine ⟨?_,?_,?_,?_,?_,?_,?_,?_,?_,?_,?_,?_,?_,?_,?_,?_⟩ <;> assumption⟩) (first
  | (go_at_call 98;(with_reducible refine (MK.out _).mono ?_);rintro e w4 ⟨rfl,hb4⟩;have hk4:=QP (by assumption) hb4))
 go_wp2_with fail
 go_ret
 exact ⟨rfl,A8 (And.left (by assumption)) hb0⟩
def freeI (p:Nat) (S:Nat→TSt) (at_:Int):Int:=if 0≤at_∧at_<(p:Int) then ((S at_.toNat).L.length:Int) else 0
end
end Go.Proofs.YteklkljndchjiaaGreat
