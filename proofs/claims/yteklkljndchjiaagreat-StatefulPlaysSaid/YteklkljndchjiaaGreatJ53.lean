/- stateful: a keeper's gone. stateful: a keeper's Open. stateful: a keeper's Drop and Go. stateful: the document's keeper in memory, told by its blocks. -/
import Derived.Test.YteklkljndchjiaaGreatJ52
import Derived.Test.YteklkljndchjiaaGreatJ50
import Derived.Test.YteklkljndchjiaaGreatJ47
import Derived.Test.YteklkljndchjiaaGreatJ44
namespace Go.Proofs.YteklkljndchjiaaGreat
open Go Go.RowKit Go.Deep Go.Maps Go.ChangeMaps
section
variable {w w':World} {X F:Nat→Prop} {k:KPtr} {r:KRule} {s:KSt}
set_option maxRecDepth 100000 in
set_option maxHeartbeats 8000000 in
theorem H4 (h:Aj k r s w X) (L:List Slt) (A:Option Addr) (d:Nat) (hR:Reads w w.heap.size 14 A L.length (L.flatMap Slt.ent)) (hA:∀ ad,A=some ad→¬ X ad.block) (ST0:∀ j (hj:j<L.length),(Lit.int .i64 (L[j]).bk).wf=true∧lmPos (AE s.M (L.take j))∧(AE s.M (L.take j)).length≤1000000) (hl:L.length≤1000000) :
  Calls Tryz.prog 106 #[ptr0 k.g,.slice A L.length d] w fun e w'=>e=.returned (.tuple #[])∧(Aj k r { s with M:=AE s.M L }).To w w' X:=by
 have ST:=Lib.hid ST0
 have hlt:=fun y (hy:X y)=>keepOb_ok.lt h hy
 have RX:∀ j,j=0→Aj k r { s with M:=AE s.M (L.take j) } w X:=fun j e=>by subst e;exact h
 clear ST0
 go_enter Tryz.func106,Tryz.ntmps106
 go_wp2_with fail
 go_loopw [8] (fun i wr=>∃ (j:Nat) (X1:Nat→Prop),j≤L.length∧i=.int .i64 (j:Nat)∧Aj k r { s with M:=AE s.M (L.take j) } wr X1∧Chg X w wr∧∀ y,X1 y→X y∨w.heap.size≤y) (fun i _=>L.length - (intOf i).toNat)
 case atStart=>exact ⟨0,X,by omega,rfl,RX 0 rfl,Chg.refl _ _,fun y hy=>.inl hy⟩
 case round =>
  obtain ⟨j,X1,hj,rfl,hW,hch,hn⟩:=hrel
  clear RX
  by_cases hjl:j<L.length
  ·
   have hji:(j:Int)<(L.length:Int):=by omega
   obtain ⟨ad,rfl,hadb,hcell⟩:=(hR.chg hch hA).rec_at Slt.ent (fun _=>rfl) hjl
   obtain ⟨s1,s2,s3⟩:=ST.out j hjl
   have hstep:=Lib.hid (EN (M:=s.M) hjl)
   have hwj:wrap64 ((j:Int)+1)=(j:Int)+1:=by unfold wrap64;omega
   obtain ⟨x,hx⟩:∃ x,L[j]=x:=⟨_,rfl⟩
   rw [hx] at hcell s1 hstep
   replace hcell:=Lib.hid hcell
   have e1:=Blk.new wr 52 x.entA
   have hb1:Below wr.heap.size wr (wr.alloc (.cells x.entA 52)):=Aa (Below.refl _ _) _
   have hW2:=keepOb_ok.call hW hb1
   have hX1:=fun y (hy:X1 y)=>keepOb_ok.lt hW hy
   replace hW:=Lib.hid hW
   go_upto_region 3 with (with_reducible refine Am rfl (.tmp 10) rfl (ad.add (j * 14)) rfl x hcell.out ?_)
   change Code.wp _ _ _ _ (wr.alloc (.cells x.entA 52))
   generalize wr.alloc (.cells x.entA 52)=w2 at *
   have c9:w2.drew.cell? ⟨wr.heap.size,9,none⟩=some (.int .i64 x.bk):=e1.cell 9
   have cg:w2.drew.cell? ⟨k.g,2,none⟩=some (ptr0 k.gl):=(Bt hW2).1.cell 2
   have hd:Below w2.heap.size w2 w2.drew:=(Below.refl _ _).drew
   have AD:=Lib.hid (MA (keepOb_ok.call hW2 hd) (-1) s1 s2 s3)
   have hsz:wr.heap.size+1≤w2.heap.size:=by have:=e1.lt;omega
   have hYq:¬ X1 wr.heap.size:=fun e=>by have:=hX1 _ e;omega
   have FIN:=Lib.hid fun (w3:World) (hT:(Aj k r { s with M:=lmAdd (AE s.M (L.take j)) x.bk (-1) }).To w2.drew w3 X1)=>show ∃ X2,Aj k r { s with M:=AE s.M (L.take (j+1)) } w3 X2∧Chg X w w3∧∀ y,X2 y→X y∨w.heap.size≤y from by
    obtain ⟨X2,k1,k2,k3⟩:=hT
    rw [← hstep.out] at k1
    have hsz2:=hch.size
    have kk:Chg X w w2:=hch.trans (Chg.of_below (F:=X) hb1) (fun _ _ h=>h)
    refine ⟨X2,k1,kk.trans (k2:Chg X1 w2 w3) (fun y hy e=>by rcases hn y e with h | h <;> first | exact h | omega),fun y hy=>?_⟩
    rcases k3 y hy with e | e
    · exact hn y e
    · exact .inr (by have e':w2.heap.size≤y:=e;omega)
   clear hW2 e1 hb1 hX1 hW hch hn hstep
   refine wp_region_held_drew (S:=fun W=>W.cell? ⟨wr.heap.size,9,none⟩=some (.int .i64 x.bk)∧W.cell? ⟨k.g,2,none⟩=some (ptr0 k.gl)) (by kernel_rfl) ⟨c9,cg⟩ (fun hHeld=>?_)
   generalize w2.drew=wd at *
   refine tq 0 ?_;try go_frame
   refine tq 1 ?_;try go_frame
   refine tq 2 ?_;try go_frame
   refine tq 3 ?_;try go_frame
   refine tq 4 ?_;try go_frame
   refine tq 5 ?_;try go_frame
   refine wpAnyH_ready (rs:=[6]) (by kernel_rfl) (by simp) ?_
   refine consH rfl (fun K hK=>?_) AllReadyH.nil
   go_simp
   (go_at_call 104;(with_reducible refine AD.out.mono ?_))
   rintro e w3 ⟨rfl,hT⟩
   refine hK.out _ _ ⟨(Af (AK hT) (A0 hHeld.1) hYq).trans hHeld.1,by obtain ⟨X2,k1,-,-⟩:=hT;exact (Bt k1).1.cell 2⟩ (fun hHeld=>?_)
   clear hK K
   try go_frame
   refine wpAnyH_done (by kernel_rfl) ?_ _
   obtain ⟨X2,f1,f2,f3⟩:=FIN.out w3 hT
   replace f1:=Lib.hid f1
   replace f2:=Lib.hid f2
   replace f3:=Lib.hid f3
   clear hHeld hT FIN
   go_wp2_with fail
   go_roundw
   case rel=>exact ⟨j+1,X2,by omega,by go_num,f1.out,f2.out,f3.out⟩
   case measure=>simp [intOf];omega
  ·
   obtain rfl:j=L.length:=by omega
   have hji:¬ (L.length:Int)<(L.length:Int):=by omega
   rw [List.take_length] at hW
   replace hW:=Lib.hid hW
   replace hn:=Lib.hid hn
   go_wp2_with fail
   go_end0
   exact ⟨rfl,X1,hW.out,hch,hn.out⟩
theorem Oc (h:Aj k r s w X) (x:Slt) (A:Option Addr) (d:Nat) (hR:Reads w w.heap.size 14 A [x].length ([x].flatMap Slt.ent)) (hA:∀ ad,A=some ad→¬ X ad.block) (hw:(Lit.int .i64 x.bk).wf=true) (hp:lmPos s.M) (hl:s.M.length≤1000000) :
  Calls Tryz.prog 106 #[ptr0 k.g,.slice A 1 d] w fun e w'=>e=.returned (.tuple #[])∧(Aj k r { s with M:=lmAdd s.M x.bk (-1) }).To w w' X :=
 H4 h [x] A d hR hA (fun j hj=>by
  obtain rfl:j=0:=by simpa using hj
  exact ⟨hw,hp,hl⟩) (by simp)
theorem J2 (b:Bool) (hI:KI r s) {S0:Bool→Nat→TSt} {M0:LM} {n0:Int} (hS:S0 b=s.S b) (h:Aj k r ⟨S0,M0,n0⟩ w X) (bk:Int):Calls Tryz.prog 24 #[ptr0 (k.gb b),.int .i64 bk] w fun e w'=>∃ (A:Option Addr) (a:Nat),e=.returned (.slice A (CF r s bk b).length a)∧OwnE w' w.heap.size A a (CF r s bk b)∧(Aj k r ⟨updB S0 b (fun i=>AX (r.n b) bk (s.S b i)),M0,n0⟩).ToZ w w' X (InB A):=by
 obtain ⟨X1,h1,-,-,h2⟩:=H3 b h
 dsimp only at h1 h2
 rw [hS] at h1
 refine (Qo h1 (hI.lk b).ti bk).mono ?_
 rintro e w' ⟨A,a,rfl,hO,hT⟩
 refine ⟨A,a,rfl,hO,h2 _ _ _ (fun y hy hx=>?_) hT⟩
 have:=(hO.block hy).1
 have:=keepOb_ok.lt h hx
 omega
end
section
variable {w w':World} {X F:Nat→Prop} {k:KPtr} {r:KRule} {s:KSt}
theorem Cy (F:Array Value) (q:Nat) (x:Slt) (ck e:Int) (W:World) (h8:F[8]?=some (.pointer (some ⟨q,0,none⟩))) (h9:F[9]?=some (.int .u64 ck)) (h10:F[10]?=some (.int .i64 e)) (hE:EntAt q x W):Sem.run Tryz.prog (results Tryz.f42 F) W=.ok (.tuple #[x.val,.int .u64 ck,.int .i64 e]) W:=by
 obtain ⟨r0,r1,r2,r3,r4,r5,r6,r7,r8,r9,r10,r11,r12,r13⟩:=hE
 simp [results,Tryz.results42,go_sem,h8,h9,h10,r0,r1,r2,r3,r4,r5,r6,r7,r8,r9,r10,r11,r12,r13]
set_option maxRecDepth 100000 in
set_option maxHeartbeats 8000000 in
theorem JX (hI:KI r s) (h:Aj k r s w X) (t:Tup) (_ht:tupWf t) (bk fl:Int) :
  Calls Tryz.prog 42 #[ptr0 k.g,t.val,.int .i64 bk,.int .i64 fl] w fun e w'=>e=.returned (.tuple #[(D8 r s t bk fl).val,.int .u64 (Ey r s t bk fl),.int .i64 (BH r s t bk fl)])∧(Aj k r (kOpen r s t bk fl)).To w w' X:=by
 have hlt:=fun y (hy:X y)=>keepOb_ok.lt h hy
 obtain ⟨b,hb⟩:∃ b,isT t=b:=⟨_,rfl⟩
 have hbp:(t.p==6)=b:=hb
 obtain ⟨hnp,hp1,hp16⟩:=C4 hI.ok
 have hti:=hI.lk b
 have hR:(r.rb b).cfg.right:=DB (Bf hI.ok b)
 obtain ⟨s1,hs1⟩:∃ s1:KSt,{ s with S:=kUpd r s t (openS (r.rb (isT t)).cfg (r.n (isT t)) (kPt r s t) t bk fl) }=s1:=⟨_,rfl⟩
 have hM1:s1.M=s.M:=by rw [← hs1]
 have hfin:kOpen r s t bk fl=if BH r s t bk fl=0 then { s1 with M:=lmAdd s.M bk 1 } else s1:=by
  rw [← hs1]
  unfold kOpen
  split <;> rfl
 have hbk:BH r s t bk fl=0→(Lit.int .i64 bk).wf=true:=fun h0=>wf_bk (IZ h0)
 have hpos:lmPos s1.M:=by rw [hM1];exact hI.ld.pos
 have hml:s1.M.length≤131072:=by rw [hM1];exact hI.mlen
 have B1:=(Blk.new w 47 t.cells.toArray).alloc (.cells #[.int .i64 0,.bool false,.int .u64 0,.int .u64 0,.bool false,.int .u64 0,.int .u64 0,.int .i64 0,.int .i64 0,.int .i64 0,.int .i64 0,.int .i64 0,.int .u64 0,.int .i64 0] 52)
 have B2:Blk ((w.alloc (.cells t.cells.toArray 47)).alloc (.cells #[.int .i64 0,.bool false,.int .u64 0,.int .u64 0,.bool false,.int .u64 0,.int .u64 0,.int .i64 0,.int .i64 0,.int .i64 0,.int .i64 0,.int .i64 0,.int .u64 0,.int .i64 0] 52)) (w.alloc (.cells t.cells.toArray 47)).heap.size 52 slt0.entA:=Blk.new (w.alloc (.cells t.cells.toArray 47)) 52 slt0.entA
 have hb0:Below w.heap.size w ((w.alloc (.cells t.cells.toArray 47)).alloc (.cells #[.int .i64 0,.bool false,.int .u64 0,.int .u64 0,.bool false,.int .u64 0,.int .u64 0,.int .i64 0,.int .i64 0,.int .i64 0,.int .i64 0,.int .i64 0,.int .u64 0,.int .i64 0] 52)):=Aa (Aa (Below.refl _ _) _) _
 rw [World.size_alloc] at B2
 have h1:=keepOb_ok.call h hb0
 have OP0:=fun (W:World) (hbW:Below ((w.alloc (.cells t.cells.toArray 47)).alloc (.cells #[.int .i64 0,.bool false,.int .u64 0,.int .u64 0,.bool false,.int .u64 0,.int .u64 0,.int .i64 0,.int .i64 0,.int .i64 0,.int .i64 0,.int .i64 0,.int .u64 0,.int .i64 0] 52)).heap.size ((w.alloc (.cells t.cells.toArray 47)).alloc (.cells #[.int .i64 0,.bool false,.int .u64 0,.int .u64 0,.bool false,.int .u64 0,.int .u64 0,.int .i64 0,.int .i64 0,.int .i64 0,.int .i64 0,.int .i64 0,.int .u64 0,.int .i64 0] 52)) W)=>show Calls Tryz.prog 15 #[ptr0 (k.gb b),t.val,.int .i64 bk,.int .i64 fl] W fun e w'=>e=.returned (.tuple #[(D8 r s t bk fl).val,.int .u64 (Ey r s t bk fl),.int .i64 (BH r s t bk fl)])∧(Aj k r s1).To W w' X from by
  obtain ⟨X1,k1,-,k2⟩:=Ef b (keepOb_ok.call h1 hbW)
  rw [← hs1]
  subst hb
  refine (Ql k1 hti.ti hR t bk fl).mono ?_
  rintro e w' ⟨rfl,hT⟩
  exact ⟨rfl,k2 _ _ hT⟩
 rw [hfin]
 obtain ⟨ov,hov⟩:∃ v,D8 r s t bk fl=v:=⟨_,rfl⟩
 obtain ⟨oe,hoe⟩:∃ v,BH r s t bk fl=v:=⟨_,rfl⟩
 obtain ⟨oc,hoc⟩:∃ v,Ey r s t bk fl=v:=⟨_,rfl⟩
 rw [hov,hoe,hoc] at OP0
 rw [hoe] at hbk
 rw [hov,hoe,hoc]
 rw [← hM1]
 clear hM1 hfin hov hoe hoc hs1 hti hR h hnp hp1 hp16 hI
 go_enter Tryz.func42,Tryz.ntmps42
 go_upto_region 1 with fail
 change Code.wp _ _ _ _ ((w.alloc (.cells t.cells.toArray 47)).alloc (.cells #[.int .i64 0,.bool false,.int .u64 0,.int .u64 0,.bool false,.int .u64 0,.int .u64 0,.int .i64 0,.int .i64 0,.int .i64 0,.int .i64 0,.int .i64 0,.int .u64 0,.int .i64 0] 52))
 have hw1:((w.alloc (.cells t.cells.toArray 47)).alloc (.cells #[.int .i64 0,.bool false,.int .u64 0,.int .u64 0,.bool false,.int .u64 0,.int .u64 0,.int .i64 0,.int .i64 0,.int .i64 0,.int .i64 0,.int .i64 0,.int .u64 0,.int .i64 0] 52)).heap.size=w.heap.size+2:=by rw [World.size_alloc,World.size_alloc]
 generalize (w.alloc (.cells t.cells.toArray 47)).alloc (.cells #[.int .i64 0,.bool false,.int .u64 0,.int .u64 0,.bool false,.int .u64 0,.int .u64 0,.int .i64 0,.int .i64 0,.int .i64 0,.int .i64 0,.int .i64 0,.int .u64 0,.int .i64 0] 52)=w1 at *
 obtain ⟨rt,hrt⟩:∃ rt,w.heap.size=rt:=⟨_,rfl⟩
 rw [hrt] at B1 B2 hw1
 try rw [hrt]
 have hXrt:∀ y,X y→y<rt:=fun y hy=>by have:=hlt y hy;omega
 have OF:=Lib.hid fun (W:World) (hbW:Below w1.heap.size w1 W)=>show Calls Tryz.prog 103 #[ptr0 k.g,.int .i64 t.p] W fun e w'=>e=.returned (ptr0 (k.gb b))∧Below W.heap.size W w' from by
  have:=HI (keepOb_ok.call h1 hbW) t.p
  rwa [hbp] at this
 have OP:=Lib.hid OP0
 clear OP0
 have hS1:TupAt rt t w1.drew:=TupAt.of B1
 have FIN:∀ (q:Nat) (W w3 wX:World),Below w1.heap.size w1 W→(Aj k r s1).To W w3 X→(∃ F:Nat→Prop,Chg F w3 wX∧∀ y,¬ F y)→w1.heap.size≤q→(q<W.heap.size∨w3.heap.size≤q)→Blk wX q 52 slt0.entA →
   rt+1<q∧Blk (Ac wX q ov) q 52 ov.entA∧Blk (Ac wX q ov) (rt+1) 52 slt0.entA∧∃ X',Aj k r s1 (Ac wX q ov) X'∧Chg X w (Ac wX q ov)∧(∀ y,X' y→X y∨w.heap.size≤y)∧¬ X' (rt+1)∧¬ X' q :=
  fun q W w3 wX hb hT hF hq1 hq2 hB=>Eh keepOb_ok hb0 hlt hrt (by omega) B2 hb hT hF hq1 hq2 hB ov
 replace FIN:=Lib.hid FIN
 have hYr:¬ X rt:=fun e=>by have:=hXrt _ e;omega
 have hYq:∀ q,w1.heap.size≤q→¬ X q:=fun q hq e=>by have:=hXrt _ e;omega
 replace hbk:=Lib.hid hbk
 replace hpos:=Lib.hid hpos
 clear B1 B2 hlt h1
 go_cut [11,12,13] from 14 to 26 (fun x11 x12 x13 wx=>∃ q,x11=.pointer (some ⟨q,0,none⟩)∧(x12=.int .u64 oc∧x13=.int .i64 oe)∧rt+1<q∧Blk wx q 52 ov.entA∧Blk wx (rt+1) 52 slt0.entA∧∃ X',Aj k r s1 wx X'∧Chg X w wx∧(∀ y,X' y→X y∨w.heap.size≤y)∧¬ X' (rt+1)∧¬ X' q)
 case first =>
  as_aux_lemma =>
  refine wp_region_held_drew (S:=TupAt rt t) (by kernel_rfl) hS1 (fun hHeld=>?_)
  have hd:Below w1.heap.size w1 w1.drew:=(Below.refl _ _).drew
  have hzd:w1.drew.heap.size=w1.heap.size:=rfl
  generalize w1.drew=wd at *
  replace hzd:=Lib.hid hzd
  refine tq 0 ?_;try go_frame
  refine tq 1 ?_;try go_frame
  refine tq 2 ?_;try go_frame
  refine tq 4 ?_;try go_frame
  refine tq 5 ?_;try go_frame
  refine tq 6 ?_;try go_frame
  refine wpAnyH_ready (rs:=[3,12]) (by kernel_rfl) (by simp) ?_;refine consH rfl (fun K hK=>?_) (consH rfl (fun K hK=>?_) AllReadyH.nil)
  ·
   go_simp
   (go_at_call 103;(with_reducible refine (OF.out _ hd).mono ?_))
   rintro e w2 ⟨rfl,hb2⟩
   refine hK.out _ _ (hHeld.call hb2) (fun hHeld=>?_)
   clear hK K
   try go_frame
   refine wpAnyH_ready (rs:=[7,12]) (by kernel_rfl) (by simp) ?_;refine consH rfl (fun K hK=>?_) (consH rfl (fun K hK=>?_) AllReadyH.nil)
   ·
    go_simp
    (go_at_call 15;(with_reducible refine (OP.out _ (A8 hb2 hd)).mono ?_))
    rintro e w3 ⟨rfl,hT3⟩
    refine hK.out _ _ (hHeld.chg (AK hT3) hYr) (fun hHeld=>?_)
    clear hK K
    try go_frame
    refine tq 8 ?_;try go_frame
    refine tq 9 ?_;try go_frame
    refine tq 10 ?_;try go_frame
    refine tq 11 ?_;try go_frame
    refine oneH 12 fun K hK=>?_
    go_simp
    refine hK.out _ _ (hHeld.call (Aa (Below.refl _ _) _)) (fun hHeld=>?_)
    clear hK K
    try go_frame
    have hsz:=(AK hT3).size
    have hsz2:=hb2.size
    refine oneH 13 fun K hK=>?_
    rw [if_pos (by rfl)]
    have BQ:Blk (w3.alloc (.cells #[.int .i64 0,.bool false,.int .u64 0,.int .u64 0,.bool false,.int .u64 0,.int .u64 0,.int .i64 0,.int .i64 0,.int .i64 0,.int .i64 0,.int .i64 0,.int .u64 0,.int .i64 0] 52)) w3.heap.size 52 slt0.entA:=Blk.new w3 52 slt0.entA
    with_reducible refine Ae (r:=w3.heap.size) (z:=slt0) (.tmp 11) (.tmp 23) rfl BQ ov rfl rfl ?_
    refine hK.out _ _ (hHeld.chg (Ab BQ ov).2 (fun e=>by have e2:rt=w3.heap.size:=e;have h9:=hzd.out;omega)) (fun hHeld=>?_)
    clear hK K
    try go_frame
    refine tq 14 ?_;try go_frame
    refine tq 15 ?_;try go_frame
    refine wpAnyH_done (by kernel_rfl) ?_ _
    go_wp2_with fail
    go_meet
    exact ⟨w3.heap.size,rfl,⟨rfl,rfl⟩,FIN.out w3.heap.size w2 w3 _ (A8 hb2 hd) hT3 ⟨fun _=>False,Chg.of_below (Aa (Below.refl _ _) _),fun _ h=>h⟩ (by have h9:=hzd.out;omega) (.inr (Nat.le_refl _)) BQ⟩
   ·
    go_simp
    refine hK.out _ _ (hHeld.call (Aa (Below.refl _ _) _)) (fun hHeld=>?_)
    clear hK K
    try go_frame
    refine oneH 7 fun K hK=>?_
    go_simp
    (go_at_call 15;(with_reducible refine (OP.out _ (A8 (Aa (Below.refl w2.heap.size w2) (.cells #[.int .i64 0,.bool false,.int .u64 0,.int .u64 0,.bool false,.int .u64 0,.int .u64 0,.int .i64 0,.int .i64 0,.int .i64 0,.int .i64 0,.int .i64 0,.int .u64 0,.int .i64 0] 52)) (A8 hb2 hd))).mono ?_))
    rintro e w3 ⟨rfl,hT3⟩
    refine hK.out _ _ (hHeld.chg (AK hT3) hYr) (fun hHeld=>?_)
    clear hK K
    try go_frame
    refine tq 8 ?_;try go_frame
    refine tq 9 ?_;try go_frame
    refine tq 10 ?_;try go_frame
    refine tq 11 ?_;try go_frame
    have hsz2:=hb2.size
    have hsa:(w2.alloc (.cells #[.int .i64 0,.bool false,.int .u64 0,.int .u64 0,.bool false,.int .u64 0,.int .u64 0,.int .i64 0,.int .i64 0,.int .i64 0,.int .i64 0,.int .i64 0,.int .u64 0,.int .i64 0] 52)).heap.size=w2.heap.size+1:=World.size_alloc _ _
    refine oneH 13 fun K hK=>?_
    rw [if_pos (by rfl)]
    have BQ:Blk w3 w2.heap.size 52 slt0.entA:=(Blk.new w2 52 slt0.entA).chg (AK hT3) (hYq _ (by have h9:=hzd.out;omega))
    with_reducible refine Ae (r:=w2.heap.size) (z:=slt0) (.tmp 11) (.tmp 23) rfl BQ ov rfl rfl ?_
    refine hK.out _ _ (hHeld.chg (Ab BQ ov).2 (fun e=>by have e2:rt=w2.heap.size:=e;have h9:=hzd.out;omega)) (fun hHeld=>?_)
    clear hK K
    try go_frame
    refine tq 14 ?_;try go_frame
    refine tq 15 ?_;try go_frame
    refine wpAnyH_done (by kernel_rfl) ?_ _
    go_wp2_with fail
    go_meet
    exact ⟨w2.heap.size,rfl,⟨rfl,rfl⟩,FIN.out w2.heap.size (w2.alloc (.cells #[.int .i64 0,.bool false,.int .u64 0,.int .u64 0,.bool false,.int .u64 0,.int .u64 0,.int .i64 0,.int .i64 0,.int .i64 0,.int .i64 0,.int .i64 0,.int .u64 0,.int .i64 0] 52)) w3 _ (A8 (Aa (Below.refl w2.heap.size w2) (.cells #[.int .i64 0,.bool false,.int .u64 0,.int .u64 0,.bool false,.int .u64 0,.int .u64 0,.int .i64 0,.int .i64 0,.int .i64 0,.int .i64 0,.int .i64 0,.int .u64 0,.int .i64 0] 52)) (A8 hb2 hd)) hT3 ⟨fun _=>False,Chg.refl _ _,fun _ h=>h⟩ (by have h9:=hzd.out;omega) (.inl (by omega)) BQ⟩
  ·
   go_simp
   refine hK.out _ _ (hHeld.call (Aa (Below.refl _ _) _)) (fun hHeld=>?_)
   clear hK K
   try go_frame
   refine oneH 3 fun K hK=>?_
   go_simp
   (go_at_call 103;(with_reducible refine (OF.out _ (A8 (Aa (Below.refl wd.heap.size wd) (.cells #[.int .i64 0,.bool false,.int .u64 0,.int .u64 0,.bool false,.int .u64 0,.int .u64 0,.int .i64 0,.int .i64 0,.int .i64 0,.int .i64 0,.int .i64 0,.int .u64 0,.int .i64 0] 52)) hd)).mono ?_))
   rintro e w2 ⟨rfl,hb2⟩
   refine hK.out _ _ (hHeld.call hb2) (fun hHeld=>?_)
   clear hK K
   try go_frame
   refine oneH 7 fun K hK=>?_
   go_simp
   (go_at_call 15;(with_reducible refine (OP.out _ (A8 hb2 (A8 (Aa (Below.refl wd.heap.size wd) (.cells #[.int .i64 0,.bool false,.int .u64 0,.int .u64 0,.bool false,.int .u64 0,.int .u64 0,.int .i64 0,.int .i64 0,.int .i64 0,.int .i64 0,.int .i64 0,.int .u64 0,.int .i64 0] 52)) hd))).mono ?_))
   rintro e w3 ⟨rfl,hT3⟩
   refine hK.out _ _ (hHeld.chg (AK hT3) hYr) (fun hHeld=>?_)
   clear hK K
   try go_frame
   refine tq 8 ?_;try go_frame
   refine tq 9 ?_;try go_frame
   refine tq 10 ?_;try go_frame
   refine tq 11 ?_;try go_frame
   have hsz2:=hb2.size
   have hsa:(wd.alloc (.cells #[.int .i64 0,.bool false,.int .u64 0,.int .u64 0,.bool false,.int .u64 0,.int .u64 0,.int .i64 0,.int .i64 0,.int .i64 0,.int .i64 0,.int .i64 0,.int .u64 0,.int .i64 0] 52)).heap.size=wd.heap.size+1:=World.size_alloc _ _
   refine oneH 13 fun K hK=>?_
   rw [if_pos (by rfl)]
   have BQ:Blk w3 wd.heap.size 52 slt0.entA:=((Blk.new wd 52 slt0.entA).call hb2).chg (AK hT3) (hYq _ (by have h9:=hzd.out;omega))
   with_reducible refine Ae (r:=wd.heap.size) (z:=slt0) (.tmp 11) (.tmp 23) rfl BQ ov rfl rfl ?_
   refine hK.out _ _ (hHeld.chg (Ab BQ ov).2 (fun e=>by have e2:rt=wd.heap.size:=e;have h9:=hzd.out;omega)) (fun hHeld=>?_)
   clear hK K
   try go_frame
   refine tq 14 ?_;try go_frame
   refine tq 15 ?_;try go_frame
   refine wpAnyH_done (by kernel_rfl) ?_ _
   go_wp2_with fail
   go_meet
   exact ⟨wd.heap.size,rfl,⟨rfl,rfl⟩,FIN.out wd.heap.size w2 w3 _ (A8 hb2 (A8 (Aa (Below.refl wd.heap.size wd) (.cells #[.int .i64 0,.bool false,.int .u64 0,.int .u64 0,.bool false,.int .u64 0,.int .u64 0,.int .i64 0,.int .i64 0,.int .i64 0,.int .i64 0,.int .i64 0,.int .u64 0,.int .i64 0] 52)) hd)) hT3 ⟨fun _=>False,Chg.refl _ _,fun _ h=>h⟩ (by have h9:=hzd.out;omega) (.inl (by omega)) BQ⟩
 case rest =>
  as_aux_lemma =>
  obtain ⟨q,rfl,⟨rfl,rfl⟩,hq,BQ,BR,X',hW',hc,hn,hnr,hnq⟩:=hcut
  clear FIN OP OF hYr hYq hXrt hS1
  replace hn:=Lib.hid hn
  replace hnr:=Lib.hid hnr
  replace hnq:=Lib.hid hnq
  have hq2:(decide (oe=0))=(oe==0):=by rw [Bool.eq_iff_iff];simp
  clear hq2
  by_cases h0:oe=0
  ·
   subst h0
   have hAd:=Lib.hid fun (W:World) (hbW:Below wc.heap.size wc W)=>MA (keepOb_ok.call hW' hbW) 1 (hbk.out rfl) hpos.out (by omega)
   have cl:=(Bt hW').1.cell 2
   replace BQ:=Lib.hid BQ
   replace BR:=Lib.hid BR
   replace hW':=Lib.hid hW'
   replace hc:=Lib.hid hc
   go_upto_region 4 with (go_at_call 104;(with_reducible refine (hAd.out _ (by first | exact Below.refl _ _ | exact (Below.refl _ _).drew)).mono ?_);rintro e w4 ⟨rfl,hT4⟩)
   obtain ⟨X2,hW2,hc2,hn2⟩:=hT4
   have hz4:=hc2.size
   have BQ4:=BQ.out.chg hc2 hnq.out
   have BR4:=BR.out.chg hc2 hnr.out
   have hlq:=BQ.out.lt
   have hlr:=BR.out.lt
   have hX2r:¬ X2 (rt+1):=fun e=>by
    rcases hn2 _ e with e | e
    · exact hnr.out e
    · omega
   replace hW2:=Lib.hid hW2
   replace hc2:=Lib.hid hc2
   replace hn2:=Lib.hid hn2
   clear hAd
   have hT4:=Lib.hid fun (wz:World) (hk:Chg (·=rt+1) w4 wz)=>show (Aj k r { s1 with M:=lmAdd s1.M bk 1 }).To w wz X from
    ⟨X2,keepOb_ok.chg hW2.out hk (fun y hy e=>hX2r (by have e3:y=rt+1:=e;exact e3 ▸ hy)),(hc.out.trans hc2.out (fun y hy e=>by rcases hn.out y e with h | h <;> first | exact h | omega)).trans hk (fun y hy e=>by have e3:y=rt+1:=e;omega),fun y hy=>by
     rcases hn2.out y hy with e | e
     · exact hn.out y e
     · exact .inr (by have:=hc.out.size;omega)⟩
   clear hX2r hn2 hc2 hW2 hW' hc hn hnr hnq BQ BR
   go_wp2_with (first
    | (with_reducible refine AC rfl (.tmp 11) rfl q rfl ov BQ4 ?_)
    | (with_reducible refine Ao (r:=rt+1) (z:=slt0) rfl rfl (.tmp 8) (.tmp 34) rfl BR4 ov rfl rfl ?_))
   obtain ⟨e1,e2⟩:=Ab BR4 ov
   change bodyPost _ _ _ _ _ (Ac w4 (rt+1) ov)
   generalize Ac w4 (rt+1) ov=w6 at *
   have hE6:=EntAt.of e1
   refine bodyPost_ret (v:=.tuple #[ov.val,.int .u64 oc,.int .i64 0]) (Cy _ _ _ _ _ _ rfl rfl rfl hE6) rfl ?_
   exact ⟨rfl,by first | exact hT4.out _ e2 | (rw [if_pos rfl];exact hT4.out _ e2)⟩
  ·
   have hne:(oe==0)=false:=by simpa using h0
   replace h0:=Lib.hid h0
   have hT4:=Lib.hid fun (wz:World) (hk:Chg (·=rt+1) wc wz)=>show (Aj k r s1).To w wz X from
    ⟨X',keepOb_ok.chg hW' hk (fun y hy e=>hnr.out (by have e3:y=rt+1:=e;exact e3 ▸ hy)),hc.trans hk (fun y hy e=>by have e3:y=rt+1:=e;omega),hn.out⟩
   clear hW' hc hn hnr hnq
   go_wp2_with (first
    | (with_reducible refine AC rfl (.tmp 11) rfl q rfl ov BQ ?_)
    | (with_reducible refine Ao (r:=rt+1) (z:=slt0) rfl rfl (.tmp 8) (.tmp 34) rfl BR ov rfl rfl ?_))
   obtain ⟨e1,e2⟩:=Ab BR ov
   change bodyPost _ _ _ _ _ (Ac wc (rt+1) ov)
   generalize Ac wc (rt+1) ov=w6 at *
   have hE6:=EntAt.of e1
   refine bodyPost_ret (v:=.tuple #[ov.val,.int .u64 oc,.int .i64 oe]) (Cy _ _ _ _ _ _ rfl rfl rfl hE6) rfl ?_
   exact ⟨rfl,by first | exact hT4.out _ e2 | (rw [if_neg h0.out];exact hT4.out _ e2)⟩
end
section
variable {w w1 w2:World} {X Z:Nat→Prop} {P P':Ob} {A A':Option Addr}
theorem Ob.ToZ.of {X1:Nat→Prop} (h2:Chg X w w1) (h3:∀ y,X1 y→X y∨w.heap.size≤y) (h4:∀ y,X1 y→¬ Z y) (hZ:∀ y,Z y→y<w1.heap.size) (k:P'.To w1 w2 X1):P'.ToZ w w2 X Z:=by
 obtain ⟨X2,k1,k2,k3⟩:=k
 have hz:=h2.size
 refine ⟨X2,k1,h2.trans k2 fun y hy hx=>?_,fun y hy=>?_,fun y hy e=>?_⟩
 ·
  rcases h3 y hx with h | h
  · exact h
  · omega
 ·
  rcases k3 y hy with h | h
  · exact h3 y h
  · exact .inr (by omega)
 ·
  rcases k3 y hy with h | h
  · exact h4 y h e
  ·
   have:=hZ y e
   omega
theorem Ob.ToZ.push (hP:P.Ok) (t:P.ToZ w w1 X (InB A)) (hp:Pushed w1 w2 A A') (hA:∀ b,InB A b→w.heap.size≤b):P.ToZ w w2 X (InB A'):=by
 obtain ⟨X1,h1,h2,h3,h4⟩:=t
 refine ⟨X1,hP.chg h1 hp.chg h4,h2.trans hp.chg fun y hy e=>by have:=hA y e;omega,h3,fun y hy e=>?_⟩
 rcases hp.new y e with h | h
 · exact h4 y hy h
 ·
  have:=hP.lt h1 hy
  omega
theorem OwnA.to {α:Type} {cells:α→List Value} {m:Nat} {e:TypeId} {base c:Nat} {l:List α} (h:OwnA cells m e w1 base A c l) {X1:Nat→Prop} (t:P.To w1 w2 X1) (hX:∀ y,X1 y→¬ InB A y):OwnA cells m e w2 base A c l:=by
 obtain ⟨X2,-,h2,-⟩:=t
 exact h.chg h2 fun b hb e=>hX b e hb
end
section
variable {w w':World} {X F:Nat→Prop} {k:KPtr} {r:KRule} {s:KSt}
theorem L6 (S:Bool→Nat→TSt) (T:Bool→Nat→TSt):updB (updB S true (T true)) false (T false)=T:=by
 funext b
 cases b <;> rfl
theorem Dp (hI:KI r s) (bk:Int) (b:Bool):(CF r s bk b).length≤65536:=by
 have h1:=E4 (f:=fun i=>Aq (s.S b i).E (dropL (r.n b) bk (s.S b i))) (m:=r.n b) (fun i=>Ed _ _ _) r.p
 have h2:=hI.n4 b
 have h3:=hI.p1
 have h4:r.p * r.n b≤16 * 4096:=Nat.mul_le_mul h3.2 h2
 unfold CF
 omega
set_option maxRecDepth 100000 in
set_option maxHeartbeats 8000000 in
theorem QB (hI:KI r s) (h:Aj k r s w X) (bk:Int):Calls Tryz.prog 52 #[ptr0 k.g,.int .i64 bk] w fun e w'=>∃ (A:Option Addr) (a:Nat),e=.returned (.slice A (Bi r s bk).length a)∧OwnE w' w.heap.size A a (Bi r s bk)∧(Aj k r (kDrop r s bk)).ToZ w w' X (InB A):=by
 have GV:=Lib.hid (CG h)
 have c0:=(Bt h).1.cell 0
 have c1:=(Bt h).1.cell 1
 have l1:=Dp hI bk true
 have l2:=Dp hI bk false
 have hlt:=fun y (hy:X y)=>keepOb_ok.lt h hy
 have D1:=Lib.hid (J2 true hI (k:=k) (S0:=s.S) (M0:=s.M) (n0:=s.now) rfl h bk)
 have D2:=Lib.hid fun (W:World) (X1:Nat→Prop) (hW:Aj k r ⟨updB s.S true (fun i=>AX (r.n true) bk (s.S true i)),s.M,s.now⟩ W X1)=>J2 false hI (S0:=updB s.S true (fun i=>AX (r.n true) bk (s.S true i))) rfl hW bk
 have hST:=Fb (Bi r s bk) hI.ld (fun y=>by rw [H1 hI bk y];omega) hI.cnt
 have i0:=fun W=>EA (ptr0 (k.gb true)) (ptr0 (k.gb false)) W
 have i1:=fun W=>FQ (ptr0 (k.gb true)) (ptr0 (k.gb false)) W
 have hml:=hI.mlen
 have GN:=Lib.hid fun (W:World) (X1:Nat→Prop) (hW:Aj k r ⟨updB (updB s.S true (fun i=>AX (r.n true) bk (s.S true i))) false (fun i=>AX (r.n false) bk (s.S false i)),s.M,s.now⟩ W X1) (A:Option Addr) (d:Nat) (hR:Reads W W.heap.size 14 A (Bi r s bk).length ((Bi r s bk).flatMap Slt.ent)) (hA:∀ ad,A=some ad→¬ X1 ad.block)=>show Calls Tryz.prog 106 #[ptr0 k.g,.slice A (Bi r s bk).length d] W fun e w'=>e=.returned (.tuple #[])∧(Aj k r (kDrop r s bk)).To W w' X1 from by
  have e:kDrop r s bk=⟨updB (updB s.S true (fun i=>AX (r.n true) bk (s.S true i))) false (fun i=>AX (r.n false) bk (s.S false i)),AE s.M (Bi r s bk),s.now⟩:=by
   rw [L6 s.S fun b i=>AX (r.n b) bk (s.S b i)]
   rfl
  rw [e]
  exact H4 hW (Bi r s bk) A d hR hA (fun j hj=>by
   obtain ⟨a1,a2,-,a4⟩:=hST j hj
   exact ⟨a1,a2,Nat.le_trans a4 (by omega)⟩) (by unfold Bi;rw [List.length_append];omega)
 unfold Bi at GN ⊢
 obtain ⟨L1,e1⟩:∃ L,CF r s bk true=L:=⟨_,rfl⟩
 obtain ⟨L2,e2⟩:∃ L,CF r s bk false=L:=⟨_,rfl⟩
 rw [e1] at D1 l1
 rw [e2] at D2 l2
 rw [e1,e2] at GN ⊢
 obtain ⟨s3,hs3⟩:∃ x,kDrop r s bk=x:=⟨_,rfl⟩
 rw [hs3] at GN ⊢
 clear e1 e2 h hI hST hs3
 go_enter Tryz.func52,Tryz.ntmps52
 go_wp2_with (go_at_call 107;with_reducible refine GV.out.mono ?_;rintro e w1 ⟨rfl,rfl⟩)
 refine wp_loop_rounds 3 ?_
 rw [rounds_succ]
 go_wp2_with (first
  | (go_at_call 24;(with_reducible refine D1.out.mono ?_);rintro e w1 ⟨A1,q1,rfl,hO1,hT1⟩)
  | (at_builtin;(refine Aw rfl (.tmp 18) (.tmp 21) rfl w.heap.size none 0 [] 0 rfl rfl (OwnA.nil _ _) A1 q1 L1 L1.length rfl rfl hO1.reads (by omega) (by obtain ⟨_,_,hc,-⟩:=hT1;exact hc.size) ?_;intro A3 q3 w3 hO3 hP3)))
 have hT3:=Ob.ToZ.push keepOb_ok (A:=none) (hT1.to.z fun y e=>by obtain ⟨a,e,-⟩:=e;cases e) hP3 (fun y e=>by obtain ⟨a,e,-⟩:=e;cases e)
 rw [List.nil_append] at hO3
 obtain ⟨X3,g1,g2,g3,g4⟩:=hT3
 have hz3:=g2.size
 have D2':=Lib.hid (D2.out _ _ g1)
 have hT3:=Lib.hid (show (Aj k r ⟨updB s.S true (fun i=>AX (r.n true) bk (s.S true i)),s.M,s.now⟩).ToZ w w3 X (InB A3) from ⟨X3,g1,g2,g3,g4⟩)
 replace g1:=Lib.hid g1
 replace g2:=Lib.hid g2
 replace g3:=Lib.hid g3
 replace g4:=Lib.hid g4
 clear hP3 hT1 hO1 D1 D2
 rw [rounds_succ]
 go_wp2_with (first
  | (go_at_call 24;(with_reducible refine D2'.out.mono ?_);rintro e w4 ⟨A4,q4,rfl,hO4,hT4⟩;have hO3':=hO3.to hT4.to g4.out;have hz4:w3.heap.size≤w4.heap.size:=(AK hT4.to).size)
  | (at_builtin;(refine Aw rfl (.tmp 18) (.tmp 21) rfl w.heap.size A3 q3 L1 L1.length rfl rfl hO3' A4 q4 L2 L2.length rfl rfl hO4.reads (by omega) (by omega) ?_;intro A5 q5 w5 hO5 hP5)))
 have hT5:=Ob.ToZ.push keepOb_ok (Ob.ToZ.of g2.out g3.out g4.out (fun y hy=>(hO3.block hy).2) hT4.to) hP5 (fun y hy=>(hO3.block hy).1)
 obtain ⟨X5,f1,f2,f3,f4⟩:=hT5
 have hGN:=Lib.hid (GN.out _ _ f1 A5 q5 (by have:=hO5.reads;exact this) (fun ad e hx=>f4 _ hx ⟨ad,e,rfl⟩))
 replace f1:=Lib.hid f1
 replace f2:=Lib.hid f2
 replace f3:=Lib.hid f3
 replace f4:=Lib.hid f4
 have hln:(L1 ++ L2).length=L1.length+L2.length:=by rw [List.length_append]
 rw [hln] at hGN
 clear hP5 hT4 hO4 GN D2' g1 g2 g3 g4 hO3
 rw [rounds_succ]
 go_wp2_with (go_at_call 106;(with_reducible refine hGN.out.mono ?_);rintro e w6 ⟨rfl,hT6⟩)
 go_ret
 refine ⟨A5,q5,by rw [hln];rfl,hO5.to hT6 f4.out,Ob.ToZ.of f2.out f3.out f4.out (fun y hy=>(hO5.block hy).2) hT6⟩
theorem MF (b:Bool) (hI:KI r s) {S0:Bool→Nat→TSt} {M0:LM} {n0:Int} (hS:S0 b=s.S b) (h:Aj k r ⟨S0,M0,n0⟩ w X) (nw:Int) (hg:goOk s.now nw=true):Calls Tryz.prog 21 #[ptr0 (k.gb b),.int .i64 nw] w fun e w'=>∃ (A:Option Addr) (a:Nat) (SS:Nat→List Int),e=.returned (.tuple #[.slice A (catF (fun i=>Au (s.S b i) (SS i)) r.p).length a,.int .i64 0])∧(∀ i,i<r.p→GoS r.G (s.S b i).now nw (s.S b i).M (SS i))∧OwnE w' w.heap.size A a (catF (fun i=>Au (s.S b i) (SS i)) r.p)∧(Aj k r ⟨updB S0 b (fun i=>goTab (r.n b) (s.S b i) nw (SS i)),M0,n0⟩).ToZ w w' X (InB A):=by
 obtain ⟨X1,h1,-,-,h2⟩:=H3 b h
 dsimp only at h1 h2
 rw [hS] at h1
 refine (SF h1 (hI.lk b).ti nw (fun i hi=>by rw [(hI.lk b).now i hi,hI.now b];exact hg)).mono ?_
 rintro e w' ⟨A,a,SS,rfl,hG,hO,hT⟩
 rw [r.G_b] at hG
 refine ⟨A,a,SS,rfl,hG,hO,h2 _ _ _ (fun y hy hx=>?_) hT⟩
 have:=(hO.block hy).1
 have:=keepOb_ok.lt h hx
 omega
theorem MG (hI:KI r s) (h:Aj k r s w X) (nw:Int) (hg:goOk s.now nw=false):Calls Tryz.prog 21 #[ptr0 (k.gb true),.int .i64 nw] w fun e w'=>e=.returned (.tuple #[.slice none 0 0,.int .i64 15])∧(Aj k r s).To w w' X:=by
 obtain ⟨X1,h1,-,h2⟩:=Ef true h
 refine (NV h1 (hI.lk true).ti nw (by rw [hI.now true];exact hg)).mono ?_
 rintro e w' ⟨rfl,hT⟩
 have:=h2 _ _ hT
 have e:updB s.S true (s.S true)=s.S:=by
  funext b
  cases b <;> rfl
 rw [e] at this
 exact ⟨rfl,this⟩
theorem Pd {G nw:Int} {n:Nat} {t:TSt} {S:List Int} (hi:TI n t) (hS:GoS G t.now nw t.M S):(Au t S).length≤n:=by
 unfold Au
 rw [List.length_map]
 refine CE n S hS.nd fun x hx=>?_
 cases hg:goOk t.now nw
 ·
  rw [hS.no hg] at hx
  cases hx
 ·
  have:=(hi.has x).1 ((hS.mem hg x).1 hx).1
  omega
theorem JY {α:Type} {f:Nat→List α} {m:Nat}:∀ k,(∀ i,i<k→(f i).length≤m)→(catF f k).length≤k * m
 | 0,_=>by simp [catF]
 | k+1,h=>by
  have:=JY k fun i hi=>h i (by omega)
  have:=h k (by omega)
  rw [catF,List.length_append,Nat.succ_mul]
  omega
theorem Gw (hI:KI r s) {b:Bool} {nw:Int} {SS:Nat→List Int} (hS:∀ i,i<r.p→GoS r.G (s.S b i).now nw (s.S b i).M (SS i)):(catF (fun i=>Au (s.S b i) (SS i)) r.p).length≤65536:=by
 have h1:=JY (f:=fun i=>Au (s.S b i) (SS i)) (m:=r.n b) r.p (fun i hi=>Pd (G:=r.G) ((hI.lk b).ti i hi) (hS i hi))
 have h2:=hI.n4 b
 have h3:=hI.p1
 have h4:r.p * r.n b≤16 * 4096:=Nat.mul_le_mul h3.2 h2
 omega
def selB (a b:Nat→List Int):Bool→Nat→List Int
 | true=>a
 | false=>b
set_option maxRecDepth 100000 in
set_option maxHeartbeats 8000000 in
theorem SJ (hI:KI r s) (h:Aj k r s w X) (nw:Int) (hg:goOk s.now nw=true):Calls Tryz.prog 50 #[ptr0 k.g,.int .i64 nw] w fun e w'=>∃ (A:Option Addr) (a:Nat) (SS:Bool→Nat→List Int),e=.returned (.tuple #[.slice A (kGoL r s SS).length a,.int .i64 0])∧KGoS r s nw SS∧OwnE w' w.heap.size A a (kGoL r s SS)∧(Aj k r (kGo r s nw SS)).ToZ w w' X (InB A):=by
 have GV:=Lib.hid (CG h)
 have c0:=(Bt h).1.cell 0
 have c1:=(Bt h).1.cell 1
 have hlt:=fun y (hy:X y)=>keepOb_ok.lt h hy
 have D1:=Lib.hid (MF true hI (k:=k) (S0:=s.S) (M0:=s.M) (n0:=goN s.now nw) rfl (by
  have e:Aj k r ⟨s.S,s.M,goN s.now nw⟩=Aj k r s:=rfl
  rw [e]
  exact h) nw hg)
 have D2:=Lib.hid fun (T:Nat→TSt) (W:World) (X1:Nat→Prop) (hW:Aj k r ⟨updB s.S true T,s.M,goN s.now nw⟩ W X1)=>MF false hI (S0:=updB s.S true T) rfl hW nw hg
 have i0:=fun W=>EA (ptr0 (k.gb true)) (ptr0 (k.gb false)) W
 have i1:=fun W=>FQ (ptr0 (k.gb true)) (ptr0 (k.gb false)) W
 have hml:=hI.mlen
 have LE:=Lib.hid fun (b:Bool) (SS:Nat→List Int) hS=>Gw hI (b:=b) (nw:=nw) (SS:=SS) hS
 have GN:=Lib.hid fun (SS:Bool→Nat→List Int) (hS:KGoS r s nw SS) (W:World) (X1:Nat→Prop) (hW:Aj k r ⟨updB (updB s.S true (fun i=>goTab (r.n true) (s.S true i) nw (SS true i))) false (fun i=>goTab (r.n false) (s.S false i) nw (SS false i)),s.M,goN s.now nw⟩ W X1) (A:Option Addr) (d:Nat) (hR:Reads W W.heap.size 14 A (kGoL r s SS).length ((kGoL r s SS).flatMap Slt.ent)) (hA:∀ ad,A=some ad→¬ X1 ad.block)=>show Calls Tryz.prog 106 #[ptr0 k.g,.slice A (kGoL r s SS).length d] W fun e w'=>e=.returned (.tuple #[])∧(Aj k r (kGo r s nw SS)).To W w' X1 from by
  have hST:=Fb (kGoL r s SS) hI.ld (fun y=>by rw [KW hI hS y];omega) hI.cnt
  have e:kGo r s nw SS=⟨updB (updB s.S true (fun i=>goTab (r.n true) (s.S true i) nw (SS true i))) false (fun i=>goTab (r.n false) (s.S false i) nw (SS false i)),AE s.M (kGoL r s SS),goN s.now nw⟩:=by
   rw [L6 s.S fun b i=>goTab (r.n b) (s.S b i) nw (SS b i)]
   rfl
  rw [e]
  have l1:=LE.out true (SS true) (hS true)
  have l2:=LE.out false (SS false) (hS false)
  exact H4 hW (kGoL r s SS) A d hR hA (fun j hj=>by
   obtain ⟨a1,a2,-,a4⟩:=hST j hj
   exact ⟨a1,a2,Nat.le_trans a4 (by omega)⟩) (by unfold kGoL kGoB;rw [List.length_append];omega)
 clear h hI
 go_enter Tryz.func50,Tryz.ntmps50
 go_wp2_with (go_at_call 107;with_reducible refine GV.out.mono ?_;rintro e w1 ⟨rfl,rfl⟩)
 refine wp_loop_rounds 3 ?_
 rw [rounds_succ]
 go_wp2_with (first
  | (go_at_call 21;(with_reducible refine D1.out.mono ?_);rintro e w1 ⟨A1,q1,S1,rfl,hG1,hO1,hT1⟩;have l1:=LE.out true S1 hG1)
  | (at_builtin;(refine Aw rfl (.tmp 30) (.tmp 31) rfl w.heap.size none 0 [] 0 rfl rfl (OwnA.nil _ _) A1 q1 (catF (fun i=>Au (s.S true i) (S1 i)) r.p) (catF (fun i=>Au (s.S true i) (S1 i)) r.p).length rfl rfl hO1.reads (by omega) (by obtain ⟨_,_,hc,-⟩:=hT1;exact hc.size) ?_;intro A3 q3 w3 hO3 hP3)))
 have hT3:=Ob.ToZ.push keepOb_ok (A:=none) (hT1.to.z fun y e=>by obtain ⟨a,e,-⟩:=e;cases e) hP3 (fun y e=>by obtain ⟨a,e,-⟩:=e;cases e)
 rw [List.nil_append] at hO3
 obtain ⟨X3,g1,g2,g3,g4⟩:=hT3
 have hz3:=g2.size
 have D2':=Lib.hid (D2.out _ _ _ g1)
 replace g1:=Lib.hid g1
 replace g2:=Lib.hid g2
 replace g3:=Lib.hid g3
 replace g4:=Lib.hid g4
 replace hG1:=Lib.hid hG1
 clear hP3 hT1 hO1 D1 D2
 obtain ⟨L1,e1⟩:∃ L,catF (fun i=>Au (s.S true i) (S1 i)) r.p=L:=⟨_,rfl⟩
 rw [e1] at hO3 l1
 rw [e1]
 rw [rounds_succ]
 go_wp2_with (first
  | (go_at_call 21;(with_reducible refine D2'.out.mono ?_);rintro e w4 ⟨A4,q4,S2,rfl,hG2,hO4,hT4⟩;have l2:=LE.out false S2 hG2;have hO3':=hO3.to hT4.to g4.out;have hz4:w3.heap.size≤w4.heap.size:=(AK hT4.to).size)
  | (at_builtin;(refine Aw rfl (.tmp 30) (.tmp 31) rfl w.heap.size A3 q3 L1 L1.length rfl rfl hO3' A4 q4 (catF (fun i=>Au (s.S false i) (S2 i)) r.p) (catF (fun i=>Au (s.S false i) (S2 i)) r.p).length rfl rfl hO4.reads (by omega) (by omega) ?_;intro A5 q5 w5 hO5 hP5)))
 have hT5:=Ob.ToZ.push keepOb_ok (Ob.ToZ.of g2.out g3.out g4.out (fun y hy=>(hO3.block hy).2) hT4.to) hP5 (fun y hy=>(hO3.block hy).1)
 obtain ⟨X5,f1,f2,f3,f4⟩:=hT5
 have hSS:KGoS r s nw (selB S1 S2):=fun b=>by
  cases b
  · exact hG2
  · exact hG1.out
 have hLL:kGoL r s (selB S1 S2)=L1 ++ catF (fun i=>Au (s.S false i) (S2 i)) r.p:=by rw [← e1];rfl
 have hGN:=Lib.hid (GN.out (selB S1 S2) hSS _ _ f1 A5 q5 (by rw [hLL];have:=hO5.reads;exact this) (fun ad e hx=>f4 _ hx ⟨ad,e,rfl⟩))
 rw [← hLL] at hO5
 obtain ⟨s3,hs3⟩:∃ x,kGo r s nw (selB S1 S2)=x:=⟨_,rfl⟩
 rw [hs3] at hGN
 replace f1:=Lib.hid f1
 replace f2:=Lib.hid f2
 replace f3:=Lib.hid f3
 replace f4:=Lib.hid f4
 replace hSS:=Lib.hid hSS
 have hln:(kGoL r s (selB S1 S2)).length=L1.length+(catF (fun i=>Au (s.S false i) (S2 i)) r.p).length:=by rw [hLL,List.length_append]
 rw [hln] at hGN
 generalize (catF (fun i=>Au (s.S false i) (S2 i)) r.p).length=n2 at *
 replace hln:=Lib.hid hln
 replace hLL:=Lib.hid hLL
 replace hs3:=Lib.hid hs3
 clear hP5 hT4 hO4 GN D2' g1 g2 g3 g4 hO3 hG1 hG2 LE
 rw [rounds_succ]
 go_wp2_with (go_at_call 106;(with_reducible refine hGN.out.mono ?_);rintro e w6 ⟨rfl,hT6⟩)
 go_ret2
 refine ⟨A5,q5,selB S1 S2,by rw [hln.out];rfl,hSS.out,hO5.to hT6 f4.out,by rw [hs3.out];exact Ob.ToZ.of f2.out f3.out f4.out (fun y hy=>(hO5.block hy).2) hT6⟩
set_option maxRecDepth 100000 in
theorem Od (hI:KI r s) (h:Aj k r s w X) (nw:Int) (hg:goOk s.now nw=false):Calls Tryz.prog 50 #[ptr0 k.g,.int .i64 nw] w fun e w'=>e=.returned (.tuple #[.slice none 0 0,.int .i64 15])∧(Aj k r s).To w w' X:=by
 have GV:=Lib.hid (CG h)
 have c0:=(Bt h).1.cell 0
 have c1:=(Bt h).1.cell 1
 have D1:=Lib.hid (MG hI h nw hg)
 have i0:=fun W=>EA (ptr0 (k.gb true)) (ptr0 (k.gb false)) W
 clear h hI hg
 go_enter Tryz.func50,Tryz.ntmps50
 go_wp2_with (go_at_call 107;with_reducible refine GV.out.mono ?_;rintro e w1 ⟨rfl,rfl⟩)
 refine wp_loop_rounds 1 ?_
 rw [rounds_succ]
 go_wp2_with (go_at_call 21;(with_reducible refine D1.out.mono ?_);rintro e w1 ⟨rfl,hT1⟩)
 go_ret2
 exact ⟨rfl,hT1⟩
end
structure DKPtr where
 g:Nat
 gb:Bool→Nat
def BU (g:Nat) (r:TRule) (p n:Nat) (S:Nat→TSt):Ob:=fun w X=>DTabsP w g r p n S X
def Di (k:DKPtr) (M:LM):Ob:=fun w X=>∃ base P p Q q,Blk w k.g 89 #[ptr0 (k.gb true),ptr0 (k.gb false),.slice P M.length p,.slice Q M.length q]∧Two w base P p (pre2 M) Q q (post2 M)∧¬ InB P k.g∧¬ InB Q k.g∧∀ y,X y ↔ y=k.g∨InB P y∨InB Q y
def Ag (k:DKPtr) (r:KRule) (s:KSt):Ob :=
 (Di k s.M).star ((BU (k.gb true) (r.rb true) r.p (r.n true) (s.S true)).star (BU (k.gb false) (r.rb false) r.p (r.n false) (s.S false)))
section
variable {w w':World} {X F:Nat→Prop} {k:DKPtr} {r:KRule} {s:KSt} {g p n:Nat} {tr:TRule} {S:Nat→TSt} {M:LM}
theorem dtabsOb_ok:(BU g tr p n S).Ok:=⟨fun h hy=>DTabsP.lt h hy,fun h c hd=>DTabsP.chg h c hd⟩
theorem dloadOb_ok:(Di k M).Ok:=by
 refine ⟨?_,?_⟩
 ·
  rintro w X y ⟨base,P,p,Q,q,h1,h2,-,-,h3⟩ hy
  rcases (h3 y).1 hy with rfl | e | e
  · exact h1.lt
  · exact (h2.fst.block e).2
  · exact (h2.snd.block e).2
 ·
  rintro w w' X F ⟨base,P,p,Q,q,h1,h2,h4,h5,h3⟩ c hd
  exact ⟨base,P,p,Q,q,h1.chg c (hd _ ((h3 _).2 (.inl rfl))),⟨h2.fst.chg c fun b hb=>hd b ((h3 b).2 (.inr (.inl hb))),h2.snd.chg c fun b hb=>hd b ((h3 b).2 (.inr (.inr hb))),h2.apart⟩,h4,h5,h3⟩
theorem dkeepOb_ok:(Ag k r s).Ok:=dloadOb_ok.star (dtabsOb_ok.star dtabsOb_ok)
theorem Pe (h:Di k M w X):IQ w k.g 2 M:=by
 obtain ⟨base,P,p,Q,q,h1,h2,-⟩:=h
 exact ⟨_,_,P,p,Q,q,h1,rfl,rfl,h2.fst.ints,h2.snd.ints⟩
theorem RO {M':LM} (h:Di k M w X) (hX:KT w w' w.heap.size k.g 2 M') (hc:Chg (·=k.g) w w'):(Di k M').To w w' X:=by
 obtain ⟨base,P,p,Q,q,h1,h2,-,-,h3⟩:=h
 obtain ⟨P',p',Q',q',k1,k2⟩:=hX
 have hg:=h1.lt
 have hP:=fun y (hy:InB P' y)=>(k2.fst.block hy).1
 have hQ:=fun y (hy:InB Q' y)=>(k2.snd.block hy).1
 refine ⟨fun y=>y=k.g∨InB P' y∨InB Q' y,⟨w.heap.size,P',p',Q',q',k1 _ _ h1,k2,fun e=>by have:=hP _ e;omega,fun e=>by have:=hQ _ e;omega,fun _=>Iff.rfl⟩,hc.mono fun y _ hy=>(h3 y).2 (.inl hy),fun y hy=>?_⟩
 rcases hy with e | e | e
 · exact .inl ((h3 y).2 (.inl e))
 · exact .inr (hP y e)
 · exact .inr (hQ y e)
theorem CI (h:Ag k r s w X):w.cell? ⟨k.g,0,none⟩=some (ptr0 (k.gb true))∧w.cell? ⟨k.g,1,none⟩=some (ptr0 (k.gb false))∧X k.g:=by
 obtain ⟨X1,X2,⟨base,P,p,Q,q,h1,-,-,-,h3⟩,-,-,e⟩:=h
 exact ⟨h1.cell 0,h1.cell 1,(e _).2 (.inl ((h3 _).2 (.inl rfl)))⟩
theorem FR (b:Bool) (h:Ag k r s w X):∃ X1,DTabsP w (k.gb b) (r.rb b) r.p (r.n b) (s.S b) X1∧(∀ y,X1 y→X y)∧(∀ T w',Ce w w' (k.gb b) (r.rb b) r.p (r.n b) T X1→(Ag k r { s with S:=updB s.S b T }).To w w' X) ∧
  ∀ T w' Z,(∀ y,Z y→¬ X y)→(BU (k.gb b) (r.rb b) r.p (r.n b) T).ToZ w w' X1 Z→(Ag k r { s with S:=updB s.S b T }).ToZ w w' X Z:=by
 cases b
 ·
  obtain ⟨X1,h1,h2,h3,h4⟩:=Ob.part (Ob.has_right dloadOb_ok (Ob.has_right dtabsOb_ok Ob.has_self):(Ag k r s).Has (BU (k.gb false) (r.rb false) r.p (r.n false) (s.S false)) _) h
  exact ⟨X1,h1,h2,fun T w' t=>h3 (BU (k.gb false) (r.rb false) r.p (r.n false) T) w' t,fun T w' Z hZ t=>h4 (BU (k.gb false) (r.rb false) r.p (r.n false) T) w' Z hZ t⟩
 ·
  obtain ⟨X1,h1,h2,h3,h4⟩:=Ob.part (Ob.has_right dloadOb_ok (Ob.has_left dtabsOb_ok Ob.has_self):(Ag k r s).Has (BU (k.gb true) (r.rb true) r.p (r.n true) (s.S true)) _) h
  exact ⟨X1,h1,h2,fun T w' t=>h3 (BU (k.gb true) (r.rb true) r.p (r.n true) T) w' t,fun T w' Z hZ t=>h4 (BU (k.gb true) (r.rb true) r.p (r.n true) T) w' Z hZ t⟩
theorem Dq (b:Bool) (h:Ag k r s w X):∃ X1,DTabsP w (k.gb b) (r.rb b) r.p (r.n b) (s.S b) X1∧(∀ y,X1 y→X y)∧∀ T w',Ce w w' (k.gb b) (r.rb b) r.p (r.n b) T X1→(Ag k r { s with S:=updB s.S b T }).To w w' X:=by
 obtain ⟨X1,h1,h2,h3,-⟩:=FR b h
 exact ⟨X1,h1,h2,h3⟩
theorem FU (h:Ag k r s w X):∃ X1,Di k s.M w X1∧∀ M' w',(Di k M').To w w' X1→(Ag k r { s with M:=M' }).To w w' X:=by
 obtain ⟨X1,h1,h2,h3,-⟩:=Ob.part (Ob.has_left (dtabsOb_ok.star dtabsOb_ok) Ob.has_self:(Ag k r s).Has (Di k s.M) _) h
 exact ⟨X1,h1,fun M' w' t=>h3 (Di k M') w' t⟩
theorem Gx (h:Ag k r s w X) (q:Int):Calls Tryz.prog 47 #[ptr0 k.g,.int .i64 q] w fun e w'=>e=.returned (ptr0 (k.gb (q==6)))∧Below w.heap.size w w':=by
 obtain ⟨c0,c1,-⟩:=CI h
 clear h
 cases hq:q==6
 ·
  go_enter Tryz.func47,Tryz.ntmps47
  go_wp2_with fail
  go_ret
  exact ⟨rfl,Below.refl _ _⟩
 ·
  go_enter Tryz.func47,Tryz.ntmps47
  go_wp2_with fail
  go_ret
  exact ⟨rfl,Below.refl _ _⟩
theorem H5 (h:Ag k r s w X) (id n:Int) (hs:AA s.M) (hp:lmPos s.M) (hl:s.M.length≤140000) (hn:-1099511627776≤n∧n≤1099511627776) :
  Calls Tryz.prog 105 #[.pointer (some ⟨k.g,2,none⟩),.int .i64 id,.int .i64 n] w fun e w'=>e=.returned (.tuple #[])∧(Ag k r { s with M:=lmAdd s.M id n }).To w w' X:=by
 obtain ⟨X1,h1,h2⟩:=FU h
 refine (Jj k.g 2 s.M id n w (Pe h1) hs hp hl hn).mono ?_
 rintro e w' ⟨rfl,k1,k2⟩
 exact ⟨rfl,h2 _ _ (RO h1 k1 k2)⟩
theorem MH (h:Ag k r s w X) (hp:lmPos s.M) (hl:s.M.length≤140000):Calls Tryz.prog 60 #[.pointer (some ⟨k.g,2,none⟩)] w fun e w'=>e=.returned (.int .i64 (lmSum s.M))∧w=w':=by
 obtain ⟨X1,h1,h2⟩:=FU h
 exact IU k.g 2 s.M w (Pe h1) hp hl
theorem MI (b:Bool) (h:Ag k r s w X):Calls Tryz.prog 26 #[ptr0 (k.gb b)] w fun e w'=>∃ (A:Option Addr) (a:Nat),e=.returned (.slice A (r.liveB s b).length a)∧OwnE w' w.heap.size A a (r.liveB s b)∧Below w.heap.size w w':=by
 obtain ⟨X1,h1,-,-⟩:=Dq b h
 exact KN h1
theorem L8 (h:Ag k r s w X) (x:Slt) (ht:tupWf x.t) (hs:x.sl<9223372036854775808) (hx:0≤x.gen∧x.gen<18446744073709551616):Calls Tryz.prog 45 #[ptr0 k.g,x.val] w fun e w'=>e=.returned (.int .u64 (ckOf (r.rb (isT x.t)) x))∧Below w.heap.size w w':=by
 obtain ⟨b,hb⟩:∃ b,isT x.t=b:=⟨_,rfl⟩
 have hb2:(x.t.p==6)=b:=hb
 have OF:=Lib.hid fun (W:World) (hbW:Below w.heap.size w W)=>show Calls Tryz.prog 47 #[ptr0 k.g,.int .i64 x.t.p] W fun e w'=>e=.returned (ptr0 (k.gb b))∧Below W.heap.size W w' from by
  have:=Gx (dkeepOb_ok.call h hbW) x.t.p
  rwa [hb2] at this
 rw [hb]
 have CK:=Lib.hid fun (W:World) (hbW:Below w.heap.size w W)=>by
  obtain ⟨X1,⟨pb,q,gs,Xs,k2⟩,-,-⟩:=Dq b (dkeepOb_ok.call h hbW)
  exact EK k2.read x ht hs hx
 clear h hb hb2
 have hS:EntAt w.heap.size x (w.alloc (.cells x.ent.toArray 52)):=EntAt.of (Blk.new w 52 x.entA)
 have hb0:Below w.heap.size w (w.alloc (.cells x.ent.toArray 52)):=Aa (Below.refl _ _) _
 unfold ckOf
 generalize makeI (r.rb b).wd (r.rb b).sl (r.rb b).gn (r.rb b).ka (r.rb b).kb x.t x.sl x.gen=ck at *
 go_enter Tryz.func45,Tryz.ntmps45
 go_upto_region 1 with fail
 change Code.wp _ _ _ _ (w.alloc (.cells x.ent.toArray 52))
 generalize w.alloc (.cells x.ent.toArray 52)=w1 at *
 obtain ⟨rt,hrt⟩:∃ rt,w.heap.size=rt:=⟨_,rfl⟩
 rw [hrt] at hS
 try rw [hrt]
 have hS1:EntAt rt x w1.drew:=hS
 refine wp_region_held_drew (S:=EntAt rt x) (by kernel_rfl) hS1 (fun hHeld=>?_)
 have hd:Below w.heap.size w w1.drew:=hb0.drew
 generalize w1.drew=wd at *
 clear hb0
 refine tq 0 ?_;try go_frame
 refine tq 1 ?_;try go_frame
 refine tq 2 ?_;try go_frame
 refine tq 3 ?_;try go_frame
 refine tq 5 ?_;try go_frame
 refine oneH 4 fun K hK=>?_
 go_simp
 (go_at_call 47;(with_reducible refine (OF.out _ hd).mono ?_))
 rintro e w2 ⟨rfl,hb2⟩
 refine hK.out _ _ (hHeld.call hb2) (fun hHeld=>?_)
 clear hK K
 try go_frame
 refine oneH 6 fun K hK=>?_
 go_simp
 (go_at_call 33;(with_reducible refine (CK.out _ (A8 hb2 hd)).mono ?_))
 rintro e w3 ⟨rfl,hb3⟩
 refine hK.out _ _ (hHeld.call hb3) (fun hHeld=>?_)
 clear hK K
 try go_frame
 refine tq 7 ?_;try go_frame
 refine wpAnyH_done (by kernel_rfl) ?_ _
 go_wp2_with fail
 go_ret
 exact ⟨rfl,A8 hb3 (A8 hb2 hd)⟩
set_option maxRecDepth 100000 in
set_option maxHeartbeats 8000000 in
theorem FV (h:Ag k r s w X) (L:List Slt) (A:Option Addr) (d:Nat) (hR:Reads w w.heap.size 14 A L.length (L.flatMap Slt.ent)) (hA:∀ ad,A=some ad→¬ X ad.block) (ST0:∀ j (_:j<L.length),lmPos (AE s.M (L.take j))∧AA (AE s.M (L.take j))∧(AE s.M (L.take j)).length≤140000) (hl:L.length≤1000000) :
  Calls Tryz.prog 108 #[ptr0 k.g,.slice A L.length d] w fun e w'=>e=.returned (.tuple #[])∧(Ag k r { s with M:=AE s.M L }).To w w' X:=by
 have ST:=Lib.hid ST0
 have hlt:=fun y (hy:X y)=>dkeepOb_ok.lt h hy
 have RX:∀ j,j=0→Ag k r { s with M:=AE s.M (L.take j) } w X:=fun j e=>by subst e;exact h
 clear ST0
 go_enter Tryz.func108,Tryz.ntmps108
 go_wp2_with fail
 go_loopw [4] (fun i wr=>∃ (j:Nat) (X1:Nat→Prop),j≤L.length∧i=.int .i64 (j:Nat)∧Ag k r { s with M:=AE s.M (L.take j) } wr X1∧Chg X w wr∧∀ y,X1 y→X y∨w.heap.size≤y) (fun i _=>L.length - (intOf i).toNat)
 case atStart=>exact ⟨0,X,by omega,rfl,RX 0 rfl,Chg.refl _ _,fun y hy=>.inl hy⟩
 case round =>
  obtain ⟨j,X1,hj,rfl,hW,hch,hn⟩:=hrel
  clear RX
  by_cases hjl:j<L.length
  ·
   have hji:(j:Int)<(L.length:Int):=by omega
   obtain ⟨ad,rfl,hadb,hcell⟩:=(hR.chg hch hA).rec_at Slt.ent (fun _=>rfl) hjl
   obtain ⟨s2,s1,s3⟩:=ST.out j hjl
   have hstep:=Lib.hid (EN (M:=s.M) hjl)
   have hwj:wrap64 ((j:Int)+1)=(j:Int)+1:=by unfold wrap64;omega
   obtain ⟨x,hx⟩:∃ x,L[j]=x:=⟨_,rfl⟩
   rw [hx] at hcell hstep
   have c9:wr.drew.cell? ⟨(ad.add (j * 14)).block,(ad.add (j * 14)).off+9,none⟩=some (.int .i64 x.bk):=hcell 9 _ rfl
   have hd:Below wr.heap.size wr wr.drew:=(Below.refl _ _).drew
   have AD:=Lib.hid (H5 (dkeepOb_ok.call hW hd) x.bk (-1) s1 s2 s3 (by omega))
   have FIN:=Lib.hid fun (w3:World) (hT:(Ag k r { s with M:=lmAdd (AE s.M (L.take j)) x.bk (-1) }).To wr.drew w3 X1)=>show ∃ X2,Ag k r { s with M:=AE s.M (L.take (j+1)) } w3 X2∧Chg X w w3∧∀ y,X2 y→X y∨w.heap.size≤y from by
    obtain ⟨X2,k1,k2,k3⟩:=hT
    rw [← hstep.out] at k1
    have hsz2:=hch.size
    refine ⟨X2,k1,hch.trans (k2:Chg X1 wr w3) (fun y hy e=>by rcases hn y e with h | h <;> first | exact h | omega),fun y hy=>?_⟩
    rcases k3 y hy with e | e
    · exact hn y e
    · exact .inr (by have e':wr.heap.size≤y:=e;omega)
   have hY:¬ X1 (ad.add (j * 14)).block:=fun e=>by
    rw [C5] at e
    rcases hn _ e with h | h
    · exact hA ad rfl h
    ·
     have:=hR.2 (by omega)
     obtain ⟨a2,e2,e3,-⟩:=this
     cases e2
     omega
   clear hW hch hn hstep hcell
   go_upto_region 3 with fail
   refine wp_region_held_drew (S:=fun W=>W.cell? ⟨(ad.add (j * 14)).block,(ad.add (j * 14)).off+9,none⟩=some (.int .i64 x.bk)) (by kernel_rfl) c9 (fun hHeld=>?_)
   generalize wr.drew=wd at *
   refine tq 0 ?_;try go_frame
   refine tq 1 ?_;try go_frame
   refine tq 2 ?_;try go_frame
   refine tq 3 ?_;try go_frame
   refine tq 4 ?_;try go_frame
   refine tq 5 ?_;try go_frame
   refine tq 6 ?_;try go_frame
   refine tq 7 ?_;try go_frame
   refine oneH 8 fun K hK=>?_
   go_simp
   (go_at_call 105;(with_reducible refine AD.out.mono ?_))
   rintro e w3 ⟨rfl,hT⟩
   refine hK.out _ _ ((Af (AK hT) (A0 hHeld) hY).trans hHeld) (fun hHeld=>?_)
   clear hK K
   try go_frame
   refine wpAnyH_done (by kernel_rfl) ?_ _
   obtain ⟨X2,f1,f2,f3⟩:=FIN.out w3 hT
   replace f1:=Lib.hid f1
   replace f2:=Lib.hid f2
   replace f3:=Lib.hid f3
   clear hHeld hT FIN
   go_wp2_with fail
   go_roundw
   case rel=>exact ⟨j+1,X2,by omega,by go_num,f1.out,f2.out,f3.out⟩
   case measure=>simp [intOf];omega
  ·
   obtain rfl:j=L.length:=by omega
   have hji:¬ (L.length:Int)<(L.length:Int):=by omega
   rw [List.take_length] at hW
   replace hW:=Lib.hid hW
   replace hn:=Lib.hid hn
   go_wp2_with fail
   go_end0
   exact ⟨rfl,X1,hW.out,hch,hn.out⟩
end
end Go.Proofs.YteklkljndchjiaaGreat
