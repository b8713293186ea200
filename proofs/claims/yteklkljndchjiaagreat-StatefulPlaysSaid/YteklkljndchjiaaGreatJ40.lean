/- tables: the document's tables in memory, told by their blocks. tables: the document's of and Cookie. -/
import Derived.Test.YteklkljndchjiaaGreatJ33
import Derived.Test.YteklkljndchjiaaGreatJ37
import Derived.Test.YteklkljndchjiaaGreatJ39
import Derived.Test.YteklkljndchjiaaGreatJ26
namespace Go.Proofs.YteklkljndchjiaaGreat
open Go Go.RowKit Go.Deep Go.Maps Go.ChangeMaps
structure DTabsW (w:World) (g:Nat) (r:TRule) (p n:Nat) (S:Nat→TSt) (X:Nat→Prop) (pb q:Nat) (gs:Nat→Nat) (Xs:Nat→Nat→Prop):Prop where
 blk:Blk w g 124 #[.bool r.wd,.int .i64 r.sl,.int .i64 r.gn,.int .u64 r.ka,.int .u64 r.kb,.int .i64 r.np,.int .i64 r.a,.int .i64 r.b,.int .i64 r.c,.int .i64 r.d,.int .i64 r.G,.slice (some ⟨pb,0,none⟩) p q]
 ps:∀ i,i<p→w.cell? ⟨pb,i,none⟩=some (.pointer (some ⟨gs i,0,none⟩))
 tab:∀ i,i<p→DTabP w (gs i) n r.sl r.cfg (dOf n (S i)) (Xs i)
 off:∀ i,i<p→∀ y,Xs i y→y≠g∧y≠pb
 dis:∀ i j,i<p→j<p→i≠j→∀ y,Xs i y→¬ Xs j y
 all:∀ y,X y ↔ y=g∨y=pb∨∃ i,i<p∧Xs i y
 pbl:pb<w.heap.size
 np:r.np=(p:Int)
 p1:1≤p
 p16:p≤16
def DTabsP (w:World) (g:Nat) (r:TRule) (p n:Nat) (S:Nat→TSt) (X:Nat→Prop):Prop:=∃ (pb q:Nat) (gs:Nat→Nat) (Xs:Nat→Nat→Prop),DTabsW w g r p n S X pb q gs Xs
def Ce (w w':World) (g:Nat) (r:TRule) (p n:Nat) (S:Nat→TSt) (X:Nat→Prop):Prop :=
 ∃ X',DTabsP w' g r p n S X'∧Chg X w w'∧∀ y,X' y→X y∨w.heap.size≤y
section
variable {w w' w1 w2:World} {g p n pb q:Nat} {r:TRule} {S S':Nat→TSt} {X F:Nat→Prop} {gs:Nat→Nat} {Xs:Nat→Nat→Prop}
theorem DTabsW.lt (h:DTabsW w g r p n S X pb q gs Xs) {y:Nat} (hy:X y):y<w.heap.size:=by
 rcases (h.all y).1 hy with rfl | rfl | ⟨i,hi,hx⟩
 · exact h.blk.lt
 · exact h.pbl
 · exact (h.tab i hi).lt hx
theorem DTabsW.chg (h:DTabsW w g r p n S X pb q gs Xs) (k:Chg F w w') (hd:∀ y,X y→¬ F y):DTabsW w' g r p n S X pb q gs Xs where
 blk:=h.blk.chg k (hd _ ((h.all _).2 (.inl rfl)))
 ps:=fun i hi=>(Af k (a:=⟨pb,i,none⟩) h.pbl (hd _ ((h.all _).2 (.inr (.inl rfl))))).trans (h.ps i hi)
 tab:=fun i hi=>(h.tab i hi).chg k fun y hy=>hd y ((h.all y).2 (.inr (.inr ⟨i,hi,hy⟩)))
 off:=h.off
 dis:=h.dis
 all:=h.all
 pbl:=by have:=k.size;have:=h.pbl;omega
 np:=h.np
 p1:=h.p1
 p16:=h.p16
theorem DTabsW.call (h:DTabsW w g r p n S X pb q gs Xs) (hb:Below w.heap.size w w'):DTabsW w' g r p n S X pb q gs Xs:=h.chg (F:=fun _=>False) (Chg.of_below hb) (fun _ _ h=>h)
theorem DTabsW.gX (h:DTabsW w g r p n S X pb q gs Xs):X g:=(h.all g).2 (.inl rfl)
theorem DTabsW.pX (h:DTabsW w g r p n S X pb q gs Xs):X pb:=(h.all pb).2 (.inr (.inl rfl))
theorem DTabsW.iX (h:DTabsW w g r p n S X pb q gs Xs) {i:Nat} (hi:i<p):∀ y,Xs i y→X y:=fun y hy=>(h.all y).2 (.inr (.inr ⟨i,hi,hy⟩))
theorem DTabsW.part (h:DTabsW w g r p n S X pb q gs Xs) {i:Nat} (hi:i<p) {s':TSt} (t:DTo w w' (gs i) n r.sl r.cfg (dOf n s') (Xs i)):∃ (Xs':Nat→Nat→Prop) (X':Nat→Prop),DTabsW w' g r p n (updS S i s') X' pb q gs Xs'∧Chg X w w'∧∀ y,X' y→X y∨w.heap.size≤y:=by
 have hgl:=h.blk.lt
 have hpl:=h.pbl
 obtain ⟨Y',k1,k2,k3⟩:=t
 have hz:=k2.size
 refine ⟨updX Xs i Y',fun y=>y=g∨y=pb∨∃ j,j<p∧updX Xs i Y' j y,⟨h.blk.chg k2 fun hy=>(h.off i hi g hy).1 rfl,fun j hj=>(Af k2 (a:=⟨pb,j,none⟩) h.pbl (fun hy=>(h.off i hi pb hy).2 rfl)).trans (h.ps j hj),fun j hj=>?_,fun j hj y hy=>?_,fun j m hj hm hne y hy hy2=>?_,fun y=>Iff.rfl,by omega,h.np,h.p1,h.p16⟩,k2.mono fun y _ hy=>h.iX hi y hy,fun y hy=>?_⟩
 ·
  by_cases e:j=i
  ·
   subst e
   rw [Bm,BP]
   exact k1
  ·
   rw [Cc S s' e,Cd Xs Y' e]
   exact (h.tab j hj).chg k2 fun y hy hx=>h.dis j i hj hi e y hy hx
 ·
  by_cases e:j=i
  ·
   subst e
   rw [BP] at hy
   rcases k3 y hy with h1 | h1
   · exact h.off j hi y h1
   · exact ⟨by omega,by omega⟩
  ·
   rw [Cd Xs Y' e] at hy
   exact h.off j hj y hy
 ·
  by_cases e:j=i
  ·
   subst e
   rw [BP] at hy
   rw [Cd Xs Y' (fun h=>hne h.symm)] at hy2
   rcases k3 y hy with h1 | h1
   · exact h.dis j m hi hm hne y h1 hy2
   ·
    have:=(h.tab m hm).lt hy2
    omega
  ·
   rw [Cd Xs Y' e] at hy
   by_cases e2:m=i
   ·
    subst e2
    rw [BP] at hy2
    rcases k3 y hy2 with h1 | h1
    · exact h.dis j m hj hi e y hy h1
    ·
     have:=(h.tab j hj).lt hy
     omega
   ·
    rw [Cd Xs Y' e2] at hy2
    exact h.dis j m hj hm hne y hy hy2
 ·
  rcases hy with rfl | rfl | ⟨j,hj,hy⟩
  · exact .inl h.gX
  · exact .inl h.pX
  ·
   by_cases e:j=i
   ·
    subst e
    rw [BP] at hy
    rcases k3 y hy with h1 | h1
    · exact .inl (h.iX hi y h1)
    · exact .inr h1
   ·
    rw [Cd Xs Y' e] at hy
    exact .inl (h.iX hj y hy)
theorem DTabsP.lt (h:DTabsP w g r p n S X) {y:Nat} (hy:X y):y<w.heap.size:=by
 obtain ⟨pb,q,gs,Xs,h⟩:=h
 exact h.lt hy
theorem DTabsP.chg (h:DTabsP w g r p n S X) (k:Chg F w w') (hd:∀ y,X y→¬ F y):DTabsP w' g r p n S X:=by
 obtain ⟨pb,q,gs,Xs,h⟩:=h
 exact ⟨pb,q,gs,Xs,h.chg k hd⟩
theorem DTabsP.call (h:DTabsP w g r p n S X) (hb:Below w.heap.size w w'):DTabsP w' g r p n S X:=h.chg (F:=fun _=>False) (Chg.of_below hb) (fun _ _ h=>h)
theorem DTabsP.rng (h:DTabsP w g r p n S X):r.np=(p:Int)∧1≤p∧p≤16:=by
 obtain ⟨pb,q,gs,Xs,h⟩:=h
 exact ⟨h.np,h.p1,h.p16⟩
theorem DTabsW.read (h:DTabsW w g r p n S X pb q gs Xs):TRead w g pb q p r gs:=⟨h.blk.cell 0,h.blk.cell 1,h.blk.cell 2,h.blk.cell 3,h.blk.cell 4,h.blk.cell 5,h.blk.cell 11,h.ps,h.np,h.p1,h.p16⟩
theorem DU {w w':World} {g n:Nat} {b:Int} {c:TCfg} {d:DTs} {X:Nat→Prop} (h:DTo w w' g n b c d X):Chg X w w':=by
 obtain ⟨X',-,h2,-⟩:=h
 exact h2
theorem GR {w:World} {g n:Nat} {b:Int} {c:TCfg} {d:DTs} {X:Nat→Prop} (h:DTabP w g n b c d X):n≤4096:=h.n4096
end
section
variable {w w':World} {g pb q p n:Nat} {r:TRule} {gs:Nat→Nat} {S:Nat→TSt} {X F:Nat→Prop}
set_option maxRecDepth 100000 in
set_option maxHeartbeats 4000000 in
theorem FI (h:TRead w g pb q p r gs) (t:Tup) (ht:tupWf t):Calls Tryz.prog 81 #[.pointer (some ⟨g,0,none⟩),t.val] w fun e w'=>e=.returned (.pointer (some ⟨gs (pIx r t),0,none⟩))∧Below w.heap.size w w':=by
 obtain ⟨hpe,hpl⟩:=Eu r t h.np h.p1 h.p16
 have PO:=Lib.hid fun W=>Nl r.ka r.kb t r.np W ht.1 ht.2.1 ht.2.2.1 ht.2.2.2
 rw [hpe] at PO
 generalize pIx r t=i at *
 have B:=Blk.new w 47 t.cells.toArray
 have hb0:Below w.heap.size w (w.alloc (.cells t.cells.toArray 47)):=Aa (Below.refl _ _) _
 have h1:=h.call hb0
 have hli:(i:Int)<(p:Int):=by omega
 have hli0:(0:Int)≤(i:Int):=by omega
 clear h hpe ht
 obtain ⟨ka,hka⟩:∃ k,r.ka=k:=⟨_,rfl⟩
 obtain ⟨kb,hkb⟩:∃ k,r.kb=k:=⟨_,rfl⟩
 obtain ⟨np,hnp⟩:∃ k,r.np=k:=⟨_,rfl⟩
 rw [hka,hkb,hnp] at PO
 obtain ⟨tp,v,hi,lo,v',hi',lo',sp,dp⟩:=t
 go_enter Tryz.func81,Tryz.ntmps81
 go_upto_region 1 with fail
 change Code.wp _ _ _ _ (w.alloc (.cells (Tup.cells ⟨tp,v,hi,lo,v',hi',lo',sp,dp⟩).toArray 47))
 generalize w.alloc (.cells (Tup.cells ⟨tp,v,hi,lo,v',hi',lo',sp,dp⟩).toArray 47)=w1 at *
 obtain ⟨b,hb⟩:∃ b,w.heap.size=b:=⟨_,rfl⟩
 rw [hb] at B
 try rw [hb]
 have c3:=h1.c3
 have c4:=h1.c4
 have c5:=h1.c5
 rw [hka] at c3
 rw [hkb] at c4
 rw [hnp] at c5
 have c11:=h1.c11
 have ci:=h1.ps i hpl
 have t0:w1.cell? ⟨b,0,none⟩=some (.int .i64 tp):=B.cell 0
 have t1:w1.cell? ⟨b,1,none⟩=some (.bool v):=B.cell 1
 have t2:w1.cell? ⟨b,2,none⟩=some (.int .u64 hi):=B.cell 2
 have t3:w1.cell? ⟨b,3,none⟩=some (.int .u64 lo):=B.cell 3
 have t4:w1.cell? ⟨b,4,none⟩=some (.bool v'):=B.cell 4
 have t5:w1.cell? ⟨b,5,none⟩=some (.int .u64 hi'):=B.cell 5
 have t6:w1.cell? ⟨b,6,none⟩=some (.int .u64 lo'):=B.cell 6
 have t7:w1.cell? ⟨b,7,none⟩=some (.int .i64 sp):=B.cell 7
 have t8:w1.cell? ⟨b,8,none⟩=some (.int .i64 dp):=B.cell 8
 clear B h1
 go_region_held3 (fun W=>Below w1.heap.size w1 W∧W.cell? ⟨g,3,none⟩=some (.int .u64 ka)∧W.cell? ⟨g,4,none⟩=some (.int .u64 kb)∧W.cell? ⟨g,5,none⟩=some (.int .i64 np)∧W.cell? ⟨g,11,none⟩=some (.slice (some ⟨pb,0,none⟩) p q)∧W.cell? ⟨pb,i,none⟩=some (.pointer (some ⟨gs i,0,none⟩)) ∧
   W.cell? ⟨b,0,none⟩=some (.int .i64 tp)∧W.cell? ⟨b,1,none⟩=some (.bool v)∧W.cell? ⟨b,2,none⟩=some (.int .u64 hi)∧W.cell? ⟨b,3,none⟩=some (.int .u64 lo)∧W.cell? ⟨b,4,none⟩=some (.bool v')∧W.cell? ⟨b,5,none⟩=some (.int .u64 hi')∧W.cell? ⟨b,6,none⟩=some (.int .u64 lo')∧W.cell? ⟨b,7,none⟩=some (.int .i64 sp)∧W.cell? ⟨b,8,none⟩=some (.int .i64 dp))
  (first | assumption | exact ⟨(Below.refl _ _).drew,by refine ⟨?_,?_,?_,?_,?_,?_,?_,?_,?_,?_,?_,?_,?_,?_⟩ <;> assumption⟩) (first
  | (go_at_call 149;(with_reducible refine (PO.out _).mono ?_);rintro e w4 ⟨rfl,hb4⟩;have hk4:=DY (by assumption) hb4))
 go_wp2_with fail
 go_ret
 exact ⟨rfl,A8 (And.left (by assumption)) hb0⟩
set_option maxRecDepth 100000 in
set_option maxHeartbeats 4000000 in
theorem EK (h:TRead w g pb q p r gs) (x:Slt) (ht:tupWf x.t) (hs:x.sl<9223372036854775808) (hx:0≤x.gen∧x.gen<18446744073709551616):Calls Tryz.prog 33 #[.pointer (some ⟨g,0,none⟩),x.val] w fun e w'=>e=.returned (.int .u64 (makeI r.wd r.sl r.gn r.ka r.kb x.t x.sl x.gen))∧Below w.heap.size w w':=by
 obtain ⟨t,bk,st,sl,gen,due,us⟩:=x
 obtain ⟨gn,rfl⟩:∃ gn:Nat,gen=gn:=⟨gen.toNat,by have:=hx.1;simp only at this;omega⟩
 have hgn:gn<18446744073709551616:=by have:=hx.2;simp only at this;omega
 have MK:=Lib.hid fun W=>Nq r.wd r.sl r.gn r.ka r.kb t ht sl gn hgn hs W
 have B:=Blk.new w 52 (Slt.ent ⟨t,bk,st,sl,gn,due,us⟩).toArray
 have hb0:Below w.heap.size w (w.alloc (.cells (Slt.ent ⟨t,bk,st,sl,gn,due,us⟩).toArray 52)):=Aa (Below.refl _ _) _
 have h1:=h.call hb0
 show Calls _ _ _ _ fun e w'=>e=.returned (.int .u64 (makeI r.wd r.sl r.gn r.ka r.kb t sl gn))∧Below w.heap.size w w'
 clear h hx hgn ht hs
 obtain ⟨mk,hmk⟩:∃ m,makeI r.wd r.sl r.gn r.ka r.kb t sl gn=m:=⟨_,rfl⟩
 obtain ⟨po,hpo⟩:∃ m,Bb r.wd r.sl r.gn sl=m:=⟨_,rfl⟩
 rw [hmk,hpo] at MK
 rw [hmk]
 clear hmk hpo
 obtain ⟨wd,hwd⟩:∃ k,r.wd=k:=⟨_,rfl⟩
 obtain ⟨ls,hls⟩:∃ k,r.sl=k:=⟨_,rfl⟩
 obtain ⟨lg,hlg⟩:∃ k,r.gn=k:=⟨_,rfl⟩
 obtain ⟨ka,hka⟩:∃ k,r.ka=k:=⟨_,rfl⟩
 obtain ⟨kb,hkb⟩:∃ k,r.kb=k:=⟨_,rfl⟩
 rw [hwd,hls,hlg,hka,hkb] at MK
 obtain ⟨tp,v,hi,lo,v',hi',lo',sp,dp⟩:=t
 go_enter Tryz.func33,Tryz.ntmps33
 go_upto_region 1 with fail
 change Code.wp _ _ _ _ (w.alloc (.cells (Slt.ent ⟨⟨tp,v,hi,lo,v',hi',lo',sp,dp⟩,bk,st,sl,gn,due,us⟩).toArray 52))
 generalize w.alloc (.cells (Slt.ent ⟨⟨tp,v,hi,lo,v',hi',lo',sp,dp⟩,bk,st,sl,gn,due,us⟩).toArray 52)=w1 at *
 obtain ⟨b,hb⟩:∃ b,w.heap.size=b:=⟨_,rfl⟩
 rw [hb] at B
 try rw [hb]
 have g0:=h1.c0
 have g1:=h1.c1
 have g2:=h1.c2
 have g3:=h1.c3
 have g4:=h1.c4
 rw [hwd] at g0
 rw [hls] at g1
 rw [hlg] at g2
 rw [hka] at g3
 rw [hkb] at g4
 have t0:w1.cell? ⟨b,0,none⟩=some (.int .i64 tp):=B.cell 0
 have t1:w1.cell? ⟨b,1,none⟩=some (.bool v):=B.cell 1
 have t2:w1.cell? ⟨b,2,none⟩=some (.int .u64 hi):=B.cell 2
 have t3:w1.cell? ⟨b,3,none⟩=some (.int .u64 lo):=B.cell 3
 have t4:w1.cell? ⟨b,4,none⟩=some (.bool v'):=B.cell 4
 have t5:w1.cell? ⟨b,5,none⟩=some (.int .u64 hi'):=B.cell 5
 have t6:w1.cell? ⟨b,6,none⟩=some (.int .u64 lo'):=B.cell 6
 have t7:w1.cell? ⟨b,7,none⟩=some (.int .i64 sp):=B.cell 7
 have t8:w1.cell? ⟨b,8,none⟩=some (.int .i64 dp):=B.cell 8
 have t11:w1.cell? ⟨b,11,none⟩=some (.int .i64 sl):=B.cell 11
 have t12:w1.cell? ⟨b,12,none⟩=some (.int .u64 (gn:Int)):=B.cell 12
 clear B h1 hwd hls hlg hka hkb
 go_region_held3 (fun W=>Below w1.heap.size w1 W∧W.cell? ⟨g,0,none⟩=some (.bool wd)∧W.cell? ⟨g,1,none⟩=some (.int .i64 ls)∧W.cell? ⟨g,2,none⟩=some (.int .i64 lg)∧W.cell? ⟨g,3,none⟩=some (.int .u64 ka)∧W.cell? ⟨g,4,none⟩=some (.int .u64 kb)∧W.cell? ⟨b,0,none⟩=some (.int .i64 tp)∧W.cell? ⟨b,1,none⟩=some (.bool v)∧W.cell? ⟨b,2,none⟩=some (.int .u64 hi)∧W.cell? ⟨b,3,none⟩=some (.int .u64 lo)∧W.cell? ⟨b,4,none⟩=some (.bool v')∧W.cell? ⟨b,5,none⟩=some (.int .u64 hi')∧W.cell? ⟨b,6,none⟩=some (.int .u64 lo')∧W.cell? ⟨b,7,none⟩=some (.int .i64 sp)∧W.cell? ⟨b,8,none⟩=some (.int .i64 dp)∧W.cell? ⟨b,11,none⟩=some (.int .i64 sl)∧W.cell? ⟨b,12,none⟩=some (.int .u64 (gn:Int)))
  (first | assumption | exact ⟨(Below.refl _ _).drew,by refine ⟨?_,?_,?_,?_,?_,?_,?_,?_,?_,?_,?_,?_,?_,?_,?_,?_⟩ <;> assumption⟩) (first
  | (go_at_call 99;(with_reducible refine (MK.out _).mono ?_);rintro e w4 ⟨rfl,hb4⟩;have hk4:=QP (by assumption) hb4))
 go_wp2_with fail
 go_ret
 exact ⟨rfl,A8 (And.left (by assumption)) hb0⟩
end
end Go.Proofs.YteklkljndchjiaaGreat
