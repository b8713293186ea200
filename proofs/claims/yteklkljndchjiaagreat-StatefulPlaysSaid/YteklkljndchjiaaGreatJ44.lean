/- tables: the document's Touch. tables: the document's tables while they are made. -/
import Derived.Test.YteklkljndchjiaaGreatJ43
import Derived.Test.YteklkljndchjiaaGreatJ42
import Derived.Test.YteklkljndchjiaaGreatJ40
namespace Go.Proofs.YteklkljndchjiaaGreat
open Go Go.RowKit Go.Deep Go.Maps Go.ChangeMaps
theorem Ec (F:Array Value) (q:Nat) (x:Slt) (o:Bool) (W:World) (h8:F[8]?=some (.pointer (some ⟨q,0,none⟩))) (h9:F[9]?=some (.bool o)) (hE:EntAt q x W):Sem.run Tryz.prog (results Tryz.f20 F) W=.ok (.tuple #[x.val,.bool o]) W:=by
 obtain ⟨r0,r1,r2,r3,r4,r5,r6,r7,r8,r9,r10,r11,r12,r13⟩:=hE
 simp [results,Tryz.results20,go_sem,h8,h9,r0,r1,r2,r3,r4,r5,r6,r7,r8,r9,r10,r11,r12,r13]
section
variable {w w':World} {g p n:Nat} {r:TRule} {S:Nat→TSt} {X F:Nat→Prop}
set_option maxRecDepth 100000 in
set_option maxHeartbeats 8000000 in
theorem Je (h:DTabsP w g r p n S X) (hTI:∀ i,i<p→TI n (S i)) (hR:r.cfg.right) (t:Tup) (ht:tupWf t) (k:Nat) (hk:k<18446744073709551616) (fl:Int) :
  Calls Tryz.prog 20 #[.pointer (some ⟨g,0,none⟩),t.val,.int .u64 (k:Int),.int .i64 fl] w fun e w'=>e=.returned (.tuple #[(CL r n (S (pIx r t)) t k fl).val,.bool (Cv r n (S (pIx r t)) t k)])∧Ce w w' g r p n (updS S (pIx r t) (Bn r n (S (pIx r t)) t k fl)) X:=by
 have hlt:=fun y (hy:X y)=>h.lt hy
 obtain ⟨hnp,hp1,hp16⟩:=h.rng
 obtain ⟨-,hpl⟩:=Eu r t hnp hp1 hp16
 have hti:=hTI _ hpl
 have htf:TI n (findSC r n (S (pIx r t)) t k):=hti.findSC
 obtain ⟨tV,hfV⟩:∃ v,CL r n (S (pIx r t)) t k fl=v:=⟨_,rfl⟩
 obtain ⟨tO,hfO⟩:∃ v,Cv r n (S (pIx r t)) t k=v:=⟨_,rfl⟩
 obtain ⟨tS,hfS⟩:∃ v,Bn r n (S (pIx r t)) t k fl=v:=⟨_,rfl⟩
 rw [hfV,hfO,hfS]
 unfold CL at hfV
 unfold Cv at hfO
 unfold Bn at hfS
 have B1:=(Blk.new w 47 t.cells.toArray).alloc (.cells #[.int .i64 0,.bool false,.int .u64 0,.int .u64 0,.bool false,.int .u64 0,.int .u64 0,.int .i64 0,.int .i64 0,.int .i64 0,.int .i64 0,.int .i64 0,.int .u64 0,.int .i64 0] 52)
 have B2:Blk ((w.alloc (.cells t.cells.toArray 47)).alloc (.cells #[.int .i64 0,.bool false,.int .u64 0,.int .u64 0,.bool false,.int .u64 0,.int .u64 0,.int .i64 0,.int .i64 0,.int .i64 0,.int .i64 0,.int .i64 0,.int .u64 0,.int .i64 0] 52)) (w.alloc (.cells t.cells.toArray 47)).heap.size 52 slt0.entA:=Blk.new (w.alloc (.cells t.cells.toArray 47)) 52 slt0.entA
 have hb0:Below w.heap.size w ((w.alloc (.cells t.cells.toArray 47)).alloc (.cells #[.int .i64 0,.bool false,.int .u64 0,.int .u64 0,.bool false,.int .u64 0,.int .u64 0,.int .i64 0,.int .i64 0,.int .i64 0,.int .i64 0,.int .i64 0,.int .u64 0,.int .i64 0] 52)):=Aa (Aa (Below.refl _ _) _) _
 rw [World.size_alloc] at B2
 have FD:=Lib.hid (Gt (h.call hb0) hTI t ht k hk)
 obtain ⟨eV,heV⟩:∃ v,Cg r n (S (pIx r t)) t k=v:=⟨_,rfl⟩
 obtain ⟨eO,heO⟩:∃ v,Bp r n (S (pIx r t)) t k=v:=⟨_,rfl⟩
 obtain ⟨eS,heS⟩:∃ v,findSC r n (S (pIx r t)) t k=v:=⟨_,rfl⟩
 rw [heV,heO,heS] at FD
 rw [heV,heO,heS] at hfV hfO hfS
 rw [heS] at htf
 clear heV heO heS hTI hti hp1 hp16 hnp h
 go_enter Tryz.func20,Tryz.ntmps20
 go_upto_region 1 with fail
 change Code.wp _ _ _ _ ((w.alloc (.cells t.cells.toArray 47)).alloc (.cells #[.int .i64 0,.bool false,.int .u64 0,.int .u64 0,.bool false,.int .u64 0,.int .u64 0,.int .i64 0,.int .i64 0,.int .i64 0,.int .i64 0,.int .i64 0,.int .u64 0,.int .i64 0] 52))
 have hw1:((w.alloc (.cells t.cells.toArray 47)).alloc (.cells #[.int .i64 0,.bool false,.int .u64 0,.int .u64 0,.bool false,.int .u64 0,.int .u64 0,.int .i64 0,.int .i64 0,.int .i64 0,.int .i64 0,.int .i64 0,.int .u64 0,.int .i64 0] 52)).heap.size=w.heap.size+2:=by rw [World.size_alloc,World.size_alloc]
 generalize (w.alloc (.cells t.cells.toArray 47)).alloc (.cells #[.int .i64 0,.bool false,.int .u64 0,.int .u64 0,.bool false,.int .u64 0,.int .u64 0,.int .i64 0,.int .i64 0,.int .i64 0,.int .i64 0,.int .i64 0,.int .u64 0,.int .i64 0] 52)=w1 at *
 obtain ⟨rt,hrt⟩:∃ rt,w.heap.size=rt:=⟨_,rfl⟩
 rw [hrt] at B1 B2 hw1
 try rw [hrt]
 have hXrt:=Lib.hid (show ∀ y,X y→y<rt from fun y hy=>by have:=hlt y hy;omega)
 have HT:=Lib.hid (show TupAt rt t w1 from TupAt.of B1)
 obtain ⟨t0,t1,t2,t3,t4,t5,t6,t7,t8⟩:=HT.out
 obtain ⟨i,hpi⟩:∃ i,pIx r t=i:=⟨_,rfl⟩
 rw [hpi] at FD hpl
 try rw [hpi]
 replace B2:=Lib.hid B2
 replace hfV:=Lib.hid hfV
 replace hfO:=Lib.hid hfO
 replace hfS:=Lib.hid hfS
 replace htf:=Lib.hid htf
 replace hR:=Lib.hid hR
 replace hpi:=Lib.hid hpi
 clear B1 hlt hk
 go_upto_region 2 with (go_at_call 18;(with_reducible refine FD.out.mono ?_);rintro e w2 ⟨rfl,hT2⟩;clear t0 t1 t2 t3 t4 t5 t6 t7 t8;replace hT2:=Lib.hid hT2)
 change Code.wp _ _ _ _ (w2.alloc (.cells eV.entA 52))
 obtain ⟨X2,hP2,hc2,hn2⟩:=hT2.out
 have hba:Below w2.heap.size w2 (w2.alloc (.cells eV.entA 52)):=Aa (Below.refl _ _) _
 have hX2:=fun y (hy:X2 y)=>hP2.lt hy
 have hz2:=hc2.size
 have hrq:rt+2≤w2.heap.size:=by omega
 have hX0:¬ X rt:=fun e=>by have:=hXrt.out _ e;omega
 have hX1:¬ X (rt+1):=fun e=>by have:=hXrt.out _ e;omega
 have hP3:DTabsP (w2.alloc (.cells eV.entA 52)) g r p n (updS S i eS) X2:=hP2.call hba
 have hB3:Blk (w2.alloc (.cells eV.entA 52)) (rt+1) 52 slt0.entA:=(B2.out.chg hc2 hX1).call hba
 have HT3:=Lib.hid (show TupAt rt t (w2.alloc (.cells eV.entA 52)) from (HT.out.chg hc2 hX0).call hba)
 have hk3:Chg X w (w2.alloc (.cells eV.entA 52)):=((Chg.of_below hb0).trans hc2 (fun _ _ h=>h)).trans (Chg.of_below (F:=X) hba) (fun _ _ h=>h)
 have hn3:∀ y,X2 y→X y∨w.heap.size≤y:=fun y hy=>(hn2 y hy).imp id fun h=>by omega
 have hXx:∀ y,X2 y→y≠rt∧y≠rt+1:=fun y hy=>by
  rcases hn2 y hy with h | h
  ·
   have:=hXrt.out _ h
   omega
  · omega
 have hE3:=EntAt.of (Blk.new w2 52 eV.entA)
 have hz3:rt+2≤w2.heap.size∧(w2.alloc (.cells eV.entA 52)).heap.size=w2.heap.size+1:=⟨hrq,World.size_alloc _ _⟩
 clear hT2 HT hba hP2 hc2 hn2 hz2 B2 FD hrq
 obtain ⟨rq,hq⟩:∃ q,w2.heap.size=q:=⟨_,rfl⟩
 rw [hq] at hE3 hz3 hX2
 try rw [hq]
 generalize w2.alloc (.cells eV.entA 52)=w3 at *
 clear hq
 replace hE3:=Lib.hid hE3
 replace hP3:=Lib.hid hP3
 cases eO
 ·
  have e1:slt0=tV:=by simpa using hfV.out
  have e2:false=tO:=by simpa using hfO.out
  have e3:eS=tS:=by simpa using hfS.out
  subst e1
  subst e2
  subst e3
  clear hfV hfO hfS
  go_wp2_with (with_reducible refine Ao (r:=rt+1) (z:=slt0) rfl rfl (.tmp 8) (.tmp 21) rfl hB3 slt0 rfl rfl ?_)
  change bodyPost _ _ _ _ _ (Ac w3 (rt+1) slt0)
  obtain ⟨e1,e2⟩:=Ab hB3 slt0
  generalize Ac w3 (rt+1) slt0=w6 at *
  have hT:Ce w w6 g r p n (updS S i eS) X:=⟨X2,hP3.out.chg e2 fun y hy e=>by
   have e3:y=rt+1:=e
   exact (hXx y hy).2 e3,hk3.trans e2 fun y hy e=>by have e3:y=rt+1:=e;omega,hn3⟩
  have hE6:=EntAt.of e1
  refine bodyPost_ret (v:=.tuple #[slt0.val,.bool false]) (Ec _ _ _ _ _ rfl rfl hE6) rfl ?_
  exact ⟨rfl,by rw [hpi.out];exact hT⟩
 ·
  have e1:AO r.cfg n eS eV.sl fl=tV:=by simpa using hfV.out
  have e2:AG n eS eV.sl=tO:=by simpa using hfO.out
  have e3:Bd r.cfg n eS eV.sl fl=tS:=by simpa using hfS.out
  obtain ⟨pb,q0,gs,Xs,h3⟩:=hP3.out
  have h3i:=h3.tab i hpl
  rw [Bm] at h3i
  have OF:=Lib.hid fun (W:World) (hb:Below w3.heap.size w3 W)=>FI ((h3.call hb).read) t ht
  rw [hpi.out] at OF
  have TF:=Lib.hid fun (W:World) (hb:Below w3.heap.size w3 W)=>Mh (h3i.chg (Chg.of_below (F:=fun _=>False) hb) (fun _ _ h=>h)) htf.out hR.out eV.sl fl
  rw [e1,e2,e3] at TF
  have hSt:TouchAt rq rt eV.sl t w3.drew:=⟨hE3.out.2.2.2.2.2.2.2.2.2.2.2.1,HT3.out⟩
  have hd:Below w3.heap.size w3 w3.drew:=(Below.refl _ _).drew
  have FIN:=Lib.hid fun (W w4:World) (hb:Below w3.heap.size w3 W) (hT:DTo W w4 (gs i) n r.sl r.cfg (dOf n tS) (Xs i))=>show Blk w4 (rt+1) 52 slt0.entA∧TouchAt rq rt eV.sl t w4∧∀ x,EntAt (rt+1) x (Ac w4 (rt+1) x)∧Ce w (Ac w4 (rt+1) x) g r p n (updS S i tS) X from by
   obtain ⟨Xs',X',k1,k2,k3⟩:=(h3.call hb).part hpl hT
   rw [JT] at k1
   have hz:=hb.size
   have hnX:¬ X2 (rt+1):=fun e=>(hXx _ e).2 rfl
   have hB4:Blk w4 (rt+1) 52 slt0.entA:=(hB3.call hb).chg k2 hnX
   refine ⟨hB4,((show TouchAt rq rt eV.sl t w3 from hSt).call hb).chg (DU hT) (fun e=>by have:=hX2 _ (h3.iX hpl _ e);omega) (fun e=>(hXx _ (h3.iX hpl _ e)).1 rfl),fun x=>?_⟩
   obtain ⟨e1,e2⟩:=Ab hB4 x
   have hn:¬ X' (rt+1):=fun e=>by
    rcases k3 _ e with h | h
    · exact hnX h
    · omega
   have hkw:Chg X w w4:=(hk3.trans (Chg.of_below (F:=X) hb) (fun _ _ h=>h)).trans k2 fun y hy e=>by
    rcases hn3 y e with h | h
    · exact h
    · omega
   exact ⟨EntAt.of e1,X',⟨pb,q0,gs,Xs',k1.chg e2 fun y hy e=>by have e3:y=rt+1:=e;subst e3;exact hn hy⟩,hkw.trans e2 fun y hy e=>by have e3:y=rt+1:=e;omega,fun y hy=>(k3 y hy).elim (fun h=>hn3 y h) fun h=>.inr (by omega)⟩
  have hrq2:=Lib.hid hz3.1
  clear hfV hfO hfS e1 e2 e3 h3i h3 hP3 hE3 HT3 hB3 hk3 hn3 hXx hX2 hX0 hX1 htf hR hz3 hXrt hw1 hb0
  obtain ⟨es,hes⟩:∃ k,eV.sl=k:=⟨_,rfl⟩
  rw [hes] at hSt TF FIN
  clear hes
  go_upto_region 4 with fail
  refine wp_region_held_drew (S:=TouchAt rq rt es t) (by kernel_rfl) hSt (fun hHeld=>?_)
  generalize w3.drew=wq at *
  refine tq 0 ?_;try go_frame
  refine tq 1 ?_;try go_frame
  refine tq 3 ?_;try go_frame
  refine tq 4 ?_;try go_frame
  refine tq 5 ?_;try go_frame
  refine oneH 2 fun K hK=>?_
  go_simp
  (go_at_call 81;(with_reducible refine (OF.out _ hd).mono ?_))
  rintro e w5 ⟨rfl,hb5⟩
  refine hK.out _ _ (hHeld.call hb5) (fun hHeld=>?_)
  clear hK K
  try go_frame
  refine oneH 6 fun K hK=>?_
  go_simp
  (go_at_call 89;(with_reducible refine (TF.out _ (A8 hb5 hd)).mono ?_))
  rintro e w6 ⟨rfl,hT6⟩
  obtain ⟨f1,f2,f3⟩:=FIN.out w5 w6 (A8 hb5 hd) hT6
  replace f3:=Lib.hid (f3 tV)
  refine hK.out _ _ f2 (fun hHeld=>?_)
  clear hK K
  try go_frame
  refine tq 7 ?_;try go_frame
  refine tq 8 ?_;try go_frame
  refine oneH 9 fun K hK=>?_
  rw [if_pos (by rfl)]
  with_reducible refine Ae (r:=rt+1) (z:=slt0) (.tmp 8) (.tmp 29) rfl f1 tV rfl rfl ?_
  refine hK.out _ _ (hHeld.chg (Ab f1 tV).2 (fun e=>?_) (fun e=>by have e3:rt=rt+1:=e;omega)) (fun hHeld=>?_)
  ·
   have e3:rq=rt+1:=e
   have:=hrq2.out
   omega
  clear hK K
  try go_frame
  refine tq 10 ?_;try go_frame
  refine wpAnyH_done (by kernel_rfl) ?_ _
  generalize Ac w6 (rt+1) tV=w7 at *
  clear hHeld
  go_wp2_with fail
  refine bodyPost_ret (v:=.tuple #[tV.val,.bool tO]) (Ec _ _ _ _ _ rfl rfl f3.out.1) rfl ?_
  exact ⟨rfl,by rw [hpi.out];exact f3.out.2⟩
end
theorem NU:(Tryz.prog.info? 125).map (fun i=>(i.zero,i.size,i.bytes))=some (some (.pointer none),1,8):=by kernel_rfl
abbrev II (g:Nat):List Value:=[.pointer (some ⟨g,0,none⟩)]
abbrev OwnD (w:World) (base:Nat) (A:Option Addr) (c:Nat) (l:List Nat):Prop:=OwnA II 1 125 w base A c l
structure DMakeW (W:World) (D g:Nat) (r:TRule) (n k:Nat) (A:Option Addr) (c:Nat) (gs:Nat→Nat) (Xs:Nat→Nat→Prop):Prop where
 blk:Blk W g 124 #[.bool r.wd,.int .i64 r.sl,.int .i64 r.gn,.int .u64 r.ka,.int .u64 r.kb,.int .i64 r.np,.int .i64 r.a,.int .i64 r.b,.int .i64 r.c,.int .i64 r.d,.int .i64 r.G,.slice A k c]
 own:OwnD W D A c ((List.range k).map gs)
 tab:∀ i,i<k→DTabP W (gs i) n r.sl r.cfg (dOf n (sT0 n)) (Xs i)
 low:∀ i,i<k→∀ y,Xs i y→D≤y∧¬ InB A y
 dis:∀ i j,i<k→j<k→i≠j→∀ y,Xs i y→¬ Xs j y
 gD:g<D
 DW:D≤W.heap.size
section
variable {W W1 W2 W3:World} {D g n k c c' g1:Nat} {r:TRule} {A A':Option Addr} {gs:Nat→Nat} {Xs:Nat→Nat→Prop} {X1:Nat→Prop}
theorem DMakeW.call (h:DMakeW W D g r n k A c gs Xs) (hb:Below W.heap.size W W1):DMakeW W1 D g r n k A c gs Xs :=
 ⟨h.blk.call hb,h.own.call hb,fun i hi=>(h.tab i hi).chg (Chg.of_below (F:=fun _=>False) hb) (fun _ _ h=>h),h.low,h.dis,h.gD,by have:=hb.size;have:=h.DW;omega⟩
theorem DMakeW.step (h:DMakeW W D g r n k A c gs Xs) (hb:Below W.heap.size W W1) (hT:DTabP W1 g1 n r.sl r.cfg (dOf n (sT0 n)) X1) (hX:∀ y,X1 y→W.heap.size≤y) (hO:OwnD W2 D A' c' ((List.range k).map gs ++ [g1])) (hP:Pushed W1 W2 A A') (h3:W3=W2.setCell ⟨g,11,none⟩ (.slice A' (k+1) c')) :
  ∃ gs' Xs',DMakeW W3 D g r n (k+1) A' c' gs' Xs':=by
 subst h3
 have h1:=h.call hb
 have hDW:=h.DW
 have hgD:=h.gD
 have hz:=hb.size
 have hzP:=hP.chg.size
 have hAg:∀ b,InB A b→D≤b∧b<W.heap.size:=fun b hb=>h.own.block hb
 have hA1:∀ b,InB A' b→D≤b:=fun b hb=>(hO.block hb).1
 have hset:Chg (·=g) W2 (W2.setCell ⟨g,11,none⟩ (.slice A' (k+1) c')):=(Chg.refl (·=g) W2).setCell (p:=⟨g,11,none⟩) (fun _=>rfl) _
 have hmv:∀ {g'} {Y:Nat→Prop},DTabP W1 g' n r.sl r.cfg (dOf n (sT0 n)) Y→(∀ y,Y y→D≤y∧¬ InB A y)→DTabP (W2.setCell ⟨g,11,none⟩ (.slice A' (k+1) c')) g' n r.sl r.cfg (dOf n (sT0 n)) Y:=fun hY hl =>
  (hY.chg hP.chg fun y hy=>(hl y hy).2).chg hset fun y hy e=>by have:=(hl y hy).1;have e3:y=g:=e;omega
 have hX1:∀ y,X1 y→D≤y∧¬ InB A y:=fun y hy=>⟨by have:=hX y hy;omega,fun e=>by have:=hX y hy;have:=(hAg y e).2;omega⟩
 refine ⟨fun j=>if j=k then g1 else gs j,fun j=>if j=k then X1 else Xs j,?_,?_,fun i hi=>?_,fun i hi y hy=>?_,fun i j hi hj hne y hy hy2=>?_,hgD,?_⟩
 ·
  have:=(h1.blk.chg hP.chg (fun e=>by have:=(hAg _ e).1;omega)).set_ 11 (.slice A' (k+1) c')
  simpa using this
 ·
  have e1:(List.range (k+1)).map (fun j=>if j=k then g1 else gs j)=(List.range k).map gs ++ [g1]:=by
   rw [List.range_succ,List.map_append]
   congr 1
   ·
    refine List.map_congr_left fun j hj=>?_
    have:=List.mem_range.1 hj
    simp [show j≠k by omega]
   · simp
  rw [e1]
  exact hO.chg hset fun b hb e=>by have:=hA1 b hb;have e3:b=g:=e;omega
 ·
  by_cases e:i=k
  ·
   subst e
   simp only [if_true]
   exact hmv hT hX1
  ·
   simp only [e,if_false]
   exact hmv (h1.tab i (by omega)) (h.low i (by omega))
 ·
  have hnew:∀ b,InB A' b→InB A b∨W1.heap.size≤b:=hP.new
  by_cases e:i=k
  ·
   subst e
   simp only [if_true] at hy
   refine ⟨(hX1 y hy).1,fun e=>?_⟩
   rcases hnew y e with h | h
   · exact (hX1 y hy).2 h
   ·
    have:=hT.lt hy
    omega
  ·
   simp only [e,if_false] at hy
   refine ⟨(h.low i (by omega) y hy).1,fun e=>?_⟩
   rcases hnew y e with h2 | h2
   · exact (h.low i (by omega) y hy).2 h2
   ·
    have:=(h1.tab i (by omega)).lt hy
    omega
 ·
  by_cases e:i=k
  ·
   subst e
   simp only [if_true] at hy
   simp only [show j≠i from fun e=>hne e.symm,if_false] at hy2
   have:=(h.tab j (by omega)).lt hy2
   have:=hX y hy
   omega
  ·
   simp only [e,if_false] at hy
   by_cases e2:j=k
   ·
    subst e2
    simp only [if_true] at hy2
    have:=(h.tab i (by omega)).lt hy
    have:=hX y hy2
    omega
   ·
    simp only [e2,if_false] at hy2
    exact h.dis i j (by omega) (by omega) hne y hy hy2
 ·
  have:=hset.size
  omega
theorem DMakeW.done (h:DMakeW W D g r n k A c gs Xs) (hk:1≤k) (hk2:k≤16) (hr:r.np=(k:Int)):∃ X,DTabsP W g r k n (fun _=>sT0 n) X∧∀ y,X y→y=g∨D≤y:=by
 obtain ⟨pb,rfl⟩:=h.own.some_of (by simp;omega)
 have hpb:=h.own.block (b:=pb) ⟨_,rfl,rfl⟩
 have hR:=h.own.reads
 have hgD:=h.gD
 refine ⟨fun y=>y=g∨y=pb∨∃ i,i<k∧Xs i y,⟨pb,c,gs,Xs,h.blk,fun i hi=>?_,h.tab,fun i hi y hy=>?_,h.dis,fun y=>Iff.rfl,hpb.2,hr,hk,hk2⟩,fun y hy=>?_⟩
 ·
  obtain ⟨ad,e1,-,hc⟩:=Reads.rec_at II (fun _=>rfl) hR (k:=i) (by simpa using hi)
  have:=hc 0 (.pointer (some ⟨gs i,0,none⟩)) (by simp)
  obtain rfl:(⟨pb,0,none⟩:Addr)=ad:=by simpa using e1
  have e2:(⟨pb,0,none⟩:Addr).add i=⟨pb,i,none⟩:=by unfold Addr.add;split <;> simp_all
  have e3:(⟨pb,i,none⟩:Addr).add 0=⟨pb,i,none⟩:=by unfold Addr.add;rfl
  rw [Nat.mul_one,e2,e3] at this
  exact this
 ·
  obtain ⟨h1,h2⟩:=h.low i hi y hy
  exact ⟨by omega,fun e=>h2 ⟨_,rfl,e.symm⟩⟩
 ·
  rcases hy with rfl | rfl | ⟨i,hi,hy⟩
  · exact .inl rfl
  · exact .inr hpb.1
  · exact .inr (h.low i hi y hy).1
end
end Go.Proofs.YteklkljndchjiaaGreat
