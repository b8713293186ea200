/- stateful: the document's Open and Touch. -/
import Derived.Test.YteklkljndchjiaaGreatJ53
namespace Go.Proofs.YteklkljndchjiaaGreat
open Go Go.RowKit Go.Deep Go.Maps Go.ChangeMaps
section
variable {w w':World} {X F:Nat→Prop} {k:DKPtr} {r:KRule} {s:KSt}
theorem DD (F:Array Value) (q:Nat) (x:Slt) (ck e:Int) (W:World) (h8:F[8]?=some (.pointer (some ⟨q,0,none⟩))) (h9:F[9]?=some (.int .u64 ck)) (h10:F[10]?=some (.int .i64 e)) (hE:EntAt q x W):Sem.run Tryz.prog (results Tryz.f43 F) W=.ok (.tuple #[x.val,.int .u64 ck,.int .i64 e]) W:=by
 obtain ⟨r0,r1,r2,r3,r4,r5,r6,r7,r8,r9,r10,r11,r12,r13⟩:=hE
 simp [results,Tryz.results43,go_sem,h8,h9,h10,r0,r1,r2,r3,r4,r5,r6,r7,r8,r9,r10,r11,r12,r13]
set_option maxRecDepth 100000 in
set_option maxHeartbeats 8000000 in
theorem Ol (hI:KI r s) (h:Ag k r s w X) (t:Tup) (ht:tupWf t) (bk fl:Int) :
  Calls Tryz.prog 43 #[ptr0 k.g,t.val,.int .i64 bk,.int .i64 fl] w fun e w'=>e=.returned (.tuple #[(D8 r s t bk fl).val,.int .u64 (Ey r s t bk fl),.int .i64 (BH r s t bk fl)])∧(Ag k r (kOpen r s t bk fl)).To w w' X:=by
 have hlt:=fun y (hy:X y)=>dkeepOb_ok.lt h hy
 obtain ⟨b,hb⟩:∃ b,isT t=b:=⟨_,rfl⟩
 have hbp:(t.p==6)=b:=hb
 obtain ⟨hnp,hp1,hp16⟩:=C4 hI.ok
 have hti:=hI.lk b
 have hR:(r.rb b).cfg.right:=DB (Bf hI.ok b)
 obtain ⟨s1,hs1⟩:∃ s1:KSt,{ s with S:=kUpd r s t (openS (r.rb (isT t)).cfg (r.n (isT t)) (kPt r s t) t bk fl) }=s1:=⟨_,rfl⟩
 have hM1:s1.M=s.M:=by rw [← hs1]
 have hfin:kOpen r s t bk fl=if BH r s t bk fl=0 then { s1 with M:=lmAdd s.M bk 1 } else s1:=by
  rw [← hs1]
  unfold kOpen
  split <;> rfl
 have hbk:BH r s t bk fl=0→(Lit.int .i64 bk).wf=true:=fun h0=>wf_bk (IZ h0)
 have hpos:lmPos s1.M:=by rw [hM1];exact hI.ld.pos
 have hml:s1.M.length≤131072:=by rw [hM1];exact hI.mlen
 have hsrt:AA s1.M:=by rw [hM1];exact hI.ld.srt
 have B1:=(Blk.new w 47 t.cells.toArray).alloc (.cells #[.int .i64 0,.bool false,.int .u64 0,.int .u64 0,.bool false,.int .u64 0,.int .u64 0,.int .i64 0,.int .i64 0,.int .i64 0,.int .i64 0,.int .i64 0,.int .u64 0,.int .i64 0] 52)
 have B2:Blk ((w.alloc (.cells t.cells.toArray 47)).alloc (.cells #[.int .i64 0,.bool false,.int .u64 0,.int .u64 0,.bool false,.int .u64 0,.int .u64 0,.int .i64 0,.int .i64 0,.int .i64 0,.int .i64 0,.int .i64 0,.int .u64 0,.int .i64 0] 52)) (w.alloc (.cells t.cells.toArray 47)).heap.size 52 slt0.entA:=Blk.new (w.alloc (.cells t.cells.toArray 47)) 52 slt0.entA
 have hb0:Below w.heap.size w ((w.alloc (.cells t.cells.toArray 47)).alloc (.cells #[.int .i64 0,.bool false,.int .u64 0,.int .u64 0,.bool false,.int .u64 0,.int .u64 0,.int .i64 0,.int .i64 0,.int .i64 0,.int .i64 0,.int .i64 0,.int .u64 0,.int .i64 0] 52)):=Aa (Aa (Below.refl _ _) _) _
 rw [World.size_alloc] at B2
 have h1:=dkeepOb_ok.call h hb0
 have OP0:=fun (W:World) (hbW:Below ((w.alloc (.cells t.cells.toArray 47)).alloc (.cells #[.int .i64 0,.bool false,.int .u64 0,.int .u64 0,.bool false,.int .u64 0,.int .u64 0,.int .i64 0,.int .i64 0,.int .i64 0,.int .i64 0,.int .i64 0,.int .u64 0,.int .i64 0] 52)).heap.size ((w.alloc (.cells t.cells.toArray 47)).alloc (.cells #[.int .i64 0,.bool false,.int .u64 0,.int .u64 0,.bool false,.int .u64 0,.int .u64 0,.int .i64 0,.int .i64 0,.int .i64 0,.int .i64 0,.int .i64 0,.int .u64 0,.int .i64 0] 52)) W)=>show Calls Tryz.prog 16 #[ptr0 (k.gb b),t.val,.int .i64 bk,.int .i64 fl] W fun e w'=>e=.returned (.tuple #[(D8 r s t bk fl).val,.int .u64 (Ey r s t bk fl),.int .i64 (BH r s t bk fl)])∧(Ag k r s1).To W w' X from by
  obtain ⟨X1,k1,-,k2⟩:=Dq b (dkeepOb_ok.call h1 hbW)
  rw [← hs1]
  subst hb
  refine (KK k1 hti.ti hR t ht bk fl).mono ?_
  rintro e w' ⟨rfl,hT⟩
  exact ⟨rfl,k2 _ _ hT⟩
 rw [hfin]
 obtain ⟨ov,hov⟩:∃ v,D8 r s t bk fl=v:=⟨_,rfl⟩
 obtain ⟨oe,hoe⟩:∃ v,BH r s t bk fl=v:=⟨_,rfl⟩
 obtain ⟨oc,hoc⟩:∃ v,Ey r s t bk fl=v:=⟨_,rfl⟩
 rw [hov,hoe,hoc] at OP0
 rw [hoe] at hbk
 rw [hov,hoe,hoc]
 rw [← hM1]
 clear hM1 hfin hov hoe hoc hs1 hti hR h hnp hp1 hp16 hI
 go_enter Tryz.func43,Tryz.ntmps43
 go_upto_region 1 with fail
 change Code.wp _ _ _ _ ((w.alloc (.cells t.cells.toArray 47)).alloc (.cells #[.int .i64 0,.bool false,.int .u64 0,.int .u64 0,.bool false,.int .u64 0,.int .u64 0,.int .i64 0,.int .i64 0,.int .i64 0,.int .i64 0,.int .i64 0,.int .u64 0,.int .i64 0] 52))
 have hw1:((w.alloc (.cells t.cells.toArray 47)).alloc (.cells #[.int .i64 0,.bool false,.int .u64 0,.int .u64 0,.bool false,.int .u64 0,.int .u64 0,.int .i64 0,.int .i64 0,.int .i64 0,.int .i64 0,.int .i64 0,.int .u64 0,.int .i64 0] 52)).heap.size=w.heap.size+2:=by rw [World.size_alloc,World.size_alloc]
 generalize (w.alloc (.cells t.cells.toArray 47)).alloc (.cells #[.int .i64 0,.bool false,.int .u64 0,.int .u64 0,.bool false,.int .u64 0,.int .u64 0,.int .i64 0,.int .i64 0,.int .i64 0,.int .i64 0,.int .i64 0,.int .u64 0,.int .i64 0] 52)=w1 at *
 obtain ⟨rt,hrt⟩:∃ rt,w.heap.size=rt:=⟨_,rfl⟩
 rw [hrt] at B1 B2 hw1
 try rw [hrt]
 have hXrt:∀ y,X y→y<rt:=fun y hy=>by have:=hlt y hy;omega
 have OF:=Lib.hid fun (W:World) (hbW:Below w1.heap.size w1 W)=>show Calls Tryz.prog 47 #[ptr0 k.g,.int .i64 t.p] W fun e w'=>e=.returned (ptr0 (k.gb b))∧Below W.heap.size W w' from by
  have:=Gx (dkeepOb_ok.call h1 hbW) t.p
  rwa [hbp] at this
 have OP:=Lib.hid OP0
 clear OP0
 have hS1:TupAt rt t w1.drew:=TupAt.of B1
 have FIN:∀ (q:Nat) (W w3 wX:World),Below w1.heap.size w1 W→(Ag k r s1).To W w3 X→(∃ F:Nat→Prop,Chg F w3 wX∧∀ y,¬ F y)→w1.heap.size≤q→(q<W.heap.size∨w3.heap.size≤q)→Blk wX q 52 slt0.entA →
   rt+1<q∧Blk (Ac wX q ov) q 52 ov.entA∧Blk (Ac wX q ov) (rt+1) 52 slt0.entA∧∃ X',Ag k r s1 (Ac wX q ov) X'∧Chg X w (Ac wX q ov)∧(∀ y,X' y→X y∨w.heap.size≤y)∧¬ X' (rt+1)∧¬ X' q :=
  fun q W w3 wX hb hT hF hq1 hq2 hB=>Eh dkeepOb_ok hb0 hlt hrt (by omega) B2 hb hT hF hq1 hq2 hB ov
 replace FIN:=Lib.hid FIN
 have hYr:¬ X rt:=fun e=>by have:=hXrt _ e;omega
 have hYq:∀ q,w1.heap.size≤q→¬ X q:=fun q hq e=>by have:=hXrt _ e;omega
 replace hbk:=Lib.hid hbk
 replace hpos:=Lib.hid hpos
 replace hsrt:=Lib.hid hsrt
 clear B1 B2 hlt h1
 go_cut [11,12,13] from 14 to 26 (fun x11 x12 x13 wx=>∃ q,x11=.pointer (some ⟨q,0,none⟩)∧(x12=.int .u64 oc∧x13=.int .i64 oe)∧rt+1<q∧Blk wx q 52 ov.entA∧Blk wx (rt+1) 52 slt0.entA∧∃ X',Ag k r s1 wx X'∧Chg X w wx∧(∀ y,X' y→X y∨w.heap.size≤y)∧¬ X' (rt+1)∧¬ X' q)
 case first =>
  as_aux_lemma =>
  refine wp_region_held_drew (S:=TupAt rt t) (by kernel_rfl) hS1 (fun hHeld=>?_)
  have hd:Below w1.heap.size w1 w1.drew:=(Below.refl _ _).drew
  have hzd:w1.drew.heap.size=w1.heap.size:=rfl
  generalize w1.drew=wd at *
  replace hzd:=Lib.hid hzd
  refine tq 0 ?_;try go_frame
  refine tq 1 ?_;try go_frame
  refine tq 2 ?_;try go_frame
  refine tq 4 ?_;try go_frame
  refine tq 5 ?_;try go_frame
  refine tq 6 ?_;try go_frame
  refine wpAnyH_ready (rs:=[3,12]) (by kernel_rfl) (by simp) ?_;refine consH rfl (fun K hK=>?_) (consH rfl (fun K hK=>?_) AllReadyH.nil)
  ·
   go_simp
   (go_at_call 47;(with_reducible refine (OF.out _ hd).mono ?_))
   rintro e w2 ⟨rfl,hb2⟩
   refine hK.out _ _ (hHeld.call hb2) (fun hHeld=>?_)
   clear hK K
   try go_frame
   refine wpAnyH_ready (rs:=[7,12]) (by kernel_rfl) (by simp) ?_;refine consH rfl (fun K hK=>?_) (consH rfl (fun K hK=>?_) AllReadyH.nil)
   ·
    go_simp
    (go_at_call 16;(with_reducible refine (OP.out _ (A8 hb2 hd)).mono ?_))
    rintro e w3 ⟨rfl,hT3⟩
    refine hK.out _ _ (hHeld.chg (AK hT3) hYr) (fun hHeld=>?_)
    clear hK K
    try go_frame
    refine tq 8 ?_;try go_frame
    refine tq 9 ?_;try go_frame
    refine tq 10 ?_;try go_frame
    refine tq 11 ?_;try go_frame
    refine oneH 12 fun K hK=>?_
    go_simp
    refine hK.out _ _ (hHeld.call (Aa (Below.refl _ _) _)) (fun hHeld=>?_)
    clear hK K
    try go_frame
    have hsz:=(AK hT3).size
    have hsz2:=hb2.size
    refine oneH 13 fun K hK=>?_
    rw [if_pos (by rfl)]
    have BQ:Blk (w3.alloc (.cells #[.int .i64 0,.bool false,.int .u64 0,.int .u64 0,.bool false,.int .u64 0,.int .u64 0,.int .i64 0,.int .i64 0,.int .i64 0,.int .i64 0,.int .i64 0,.int .u64 0,.int .i64 0] 52)) w3.heap.size 52 slt0.entA:=Blk.new w3 52 slt0.entA
    with_reducible refine Ae (r:=w3.heap.size) (z:=slt0) (.tmp 11) (.tmp 23) rfl BQ ov rfl rfl ?_
    refine hK.out _ _ (hHeld.chg (Ab BQ ov).2 (fun e=>by have e2:rt=w3.heap.size:=e;have h9:=hzd.out;omega)) (fun hHeld=>?_)
    clear hK K
    try go_frame
    refine tq 14 ?_;try go_frame
    refine tq 15 ?_;try go_frame
    refine wpAnyH_done (by kernel_rfl) ?_ _
    go_wp2_with fail
    go_meet
    exact ⟨w3.heap.size,rfl,⟨rfl,rfl⟩,FIN.out w3.heap.size w2 w3 _ (A8 hb2 hd) hT3 ⟨fun _=>False,Chg.of_below (Aa (Below.refl _ _) _),fun _ h=>h⟩ (by have h9:=hzd.out;omega) (.inr (Nat.le_refl _)) BQ⟩
   ·
    go_simp
    refine hK.out _ _ (hHeld.call (Aa (Below.refl _ _) _)) (fun hHeld=>?_)
    clear hK K
    try go_frame
    refine oneH 7 fun K hK=>?_
    go_simp
    (go_at_call 16;(with_reducible refine (OP.out _ (A8 (Aa (Below.refl w2.heap.size w2) (.cells #[.int .i64 0,.bool false,.int .u64 0,.int .u64 0,.bool false,.int .u64 0,.int .u64 0,.int .i64 0,.int .i64 0,.int .i64 0,.int .i64 0,.int .i64 0,.int .u64 0,.int .i64 0] 52)) (A8 hb2 hd))).mono ?_))
    rintro e w3 ⟨rfl,hT3⟩
    refine hK.out _ _ (hHeld.chg (AK hT3) hYr) (fun hHeld=>?_)
    clear hK K
    try go_frame
    refine tq 8 ?_;try go_frame
    refine tq 9 ?_;try go_frame
    refine tq 10 ?_;try go_frame
    refine tq 11 ?_;try go_frame
    have hsz2:=hb2.size
    have hsa:(w2.alloc (.cells #[.int .i64 0,.bool false,.int .u64 0,.int .u64 0,.bool false,.int .u64 0,.int .u64 0,.int .i64 0,.int .i64 0,.int .i64 0,.int .i64 0,.int .i64 0,.int .u64 0,.int .i64 0] 52)).heap.size=w2.heap.size+1:=World.size_alloc _ _
    refine oneH 13 fun K hK=>?_
    rw [if_pos (by rfl)]
    have BQ:Blk w3 w2.heap.size 52 slt0.entA:=(Blk.new w2 52 slt0.entA).chg (AK hT3) (hYq _ (by have h9:=hzd.out;omega))
    with_reducible refine Ae (r:=w2.heap.size) (z:=slt0) (.tmp 11) (.tmp 23) rfl BQ ov rfl rfl ?_
    refine hK.out _ _ (hHeld.chg (Ab BQ ov).2 (fun e=>by have e2:rt=w2.heap.size:=e;have h9:=hzd.out;omega)) (fun hHeld=>?_)
    clear hK K
    try go_frame
    refine tq 14 ?_;try go_frame
    refine tq 15 ?_;try go_frame
    refine wpAnyH_done (by kernel_rfl) ?_ _
    go_wp2_with fail
    go_meet
    exact ⟨w2.heap.size,rfl,⟨rfl,rfl⟩,FIN.out w2.heap.size (w2.alloc (.cells #[.int .i64 0,.bool false,.int .u64 0,.int .u64 0,.bool false,.int .u64 0,.int .u64 0,.int .i64 0,.int .i64 0,.int .i64 0,.int .i64 0,.int .i64 0,.int .u64 0,.int .i64 0] 52)) w3 _ (A8 (Aa (Below.refl w2.heap.size w2) (.cells #[.int .i64 0,.bool false,.int .u64 0,.int .u64 0,.bool false,.int .u64 0,.int .u64 0,.int .i64 0,.int .i64 0,.int .i64 0,.int .i64 0,.int .i64 0,.int .u64 0,.int .i64 0] 52)) (A8 hb2 hd)) hT3 ⟨fun _=>False,Chg.refl _ _,fun _ h=>h⟩ (by have h9:=hzd.out;omega) (.inl (by omega)) BQ⟩
  ·
   go_simp
   refine hK.out _ _ (hHeld.call (Aa (Below.refl _ _) _)) (fun hHeld=>?_)
   clear hK K
   try go_frame
   refine oneH 3 fun K hK=>?_
   go_simp
   (go_at_call 47;(with_reducible refine (OF.out _ (A8 (Aa (Below.refl wd.heap.size wd) (.cells #[.int .i64 0,.bool false,.int .u64 0,.int .u64 0,.bool false,.int .u64 0,.int .u64 0,.int .i64 0,.int .i64 0,.int .i64 0,.int .i64 0,.int .i64 0,.int .u64 0,.int .i64 0] 52)) hd)).mono ?_))
   rintro e w2 ⟨rfl,hb2⟩
   refine hK.out _ _ (hHeld.call hb2) (fun hHeld=>?_)
   clear hK K
   try go_frame
   refine oneH 7 fun K hK=>?_
   go_simp
   (go_at_call 16;(with_reducible refine (OP.out _ (A8 hb2 (A8 (Aa (Below.refl wd.heap.size wd) (.cells #[.int .i64 0,.bool false,.int .u64 0,.int .u64 0,.bool false,.int .u64 0,.int .u64 0,.int .i64 0,.int .i64 0,.int .i64 0,.int .i64 0,.int .i64 0,.int .u64 0,.int .i64 0] 52)) hd))).mono ?_))
   rintro e w3 ⟨rfl,hT3⟩
   refine hK.out _ _ (hHeld.chg (AK hT3) hYr) (fun hHeld=>?_)
   clear hK K
   try go_frame
   refine tq 8 ?_;try go_frame
   refine tq 9 ?_;try go_frame
   refine tq 10 ?_;try go_frame
   refine tq 11 ?_;try go_frame
   have hsz2:=hb2.size
   have hsa:(wd.alloc (.cells #[.int .i64 0,.bool false,.int .u64 0,.int .u64 0,.bool false,.int .u64 0,.int .u64 0,.int .i64 0,.int .i64 0,.int .i64 0,.int .i64 0,.int .i64 0,.int .u64 0,.int .i64 0] 52)).heap.size=wd.heap.size+1:=World.size_alloc _ _
   refine oneH 13 fun K hK=>?_
   rw [if_pos (by rfl)]
   have BQ:Blk w3 wd.heap.size 52 slt0.entA:=((Blk.new wd 52 slt0.entA).call hb2).chg (AK hT3) (hYq _ (by have h9:=hzd.out;omega))
   with_reducible refine Ae (r:=wd.heap.size) (z:=slt0) (.tmp 11) (.tmp 23) rfl BQ ov rfl rfl ?_
   refine hK.out _ _ (hHeld.chg (Ab BQ ov).2 (fun e=>by have e2:rt=wd.heap.size:=e;have h9:=hzd.out;omega)) (fun hHeld=>?_)
   clear hK K
   try go_frame
   refine tq 14 ?_;try go_frame
   refine tq 15 ?_;try go_frame
   refine wpAnyH_done (by kernel_rfl) ?_ _
   go_wp2_with fail
   go_meet
   exact ⟨wd.heap.size,rfl,⟨rfl,rfl⟩,FIN.out wd.heap.size w2 w3 _ (A8 hb2 (A8 (Aa (Below.refl wd.heap.size wd) (.cells #[.int .i64 0,.bool false,.int .u64 0,.int .u64 0,.bool false,.int .u64 0,.int .u64 0,.int .i64 0,.int .i64 0,.int .i64 0,.int .i64 0,.int .i64 0,.int .u64 0,.int .i64 0] 52)) hd)) hT3 ⟨fun _=>False,Chg.refl _ _,fun _ h=>h⟩ (by have h9:=hzd.out;omega) (.inl (by omega)) BQ⟩
 case rest =>
  as_aux_lemma =>
  obtain ⟨q,rfl,⟨rfl,rfl⟩,hq,BQ,BR,X',hW',hc,hn,hnr,hnq⟩:=hcut
  clear FIN OP OF hYr hYq hXrt hS1
  replace hn:=Lib.hid hn
  replace hnr:=Lib.hid hnr
  replace hnq:=Lib.hid hnq
  have hq2:(decide (oe=0))=(oe==0):=by rw [Bool.eq_iff_iff];simp
  clear hq2
  by_cases h0:oe=0
  ·
   subst h0
   have hAd:=Lib.hid fun (W:World) (hbW:Below wc.heap.size wc W)=>H5 (dkeepOb_ok.call hW' hbW) bk 1 hsrt.out hpos.out (by omega) (by omega)
   replace BQ:=Lib.hid BQ
   replace BR:=Lib.hid BR
   replace hW':=Lib.hid hW'
   replace hc:=Lib.hid hc
   go_upto_region 4 with (go_at_call 105;(with_reducible refine (hAd.out _ (by first | exact Below.refl _ _ | exact (Below.refl _ _).drew)).mono ?_);rintro e w4 ⟨rfl,hT4⟩)
   obtain ⟨X2,hW2,hc2,hn2⟩:=hT4
   have hz4:=hc2.size
   have BQ4:=BQ.out.chg hc2 hnq.out
   have BR4:=BR.out.chg hc2 hnr.out
   have hlq:=BQ.out.lt
   have hlr:=BR.out.lt
   have hX2r:¬ X2 (rt+1):=fun e=>by
    rcases hn2 _ e with e | e
    · exact hnr.out e
    · omega
   replace hW2:=Lib.hid hW2
   replace hc2:=Lib.hid hc2
   replace hn2:=Lib.hid hn2
   clear hAd
   have hT4:=Lib.hid fun (wz:World) (hk:Chg (·=rt+1) w4 wz)=>show (Ag k r { s1 with M:=lmAdd s1.M bk 1 }).To w wz X from
    ⟨X2,dkeepOb_ok.chg hW2.out hk (fun y hy e=>hX2r (by have e3:y=rt+1:=e;exact e3 ▸ hy)),(hc.out.trans hc2.out (fun y hy e=>by rcases hn.out y e with h | h <;> first | exact h | omega)).trans hk (fun y hy e=>by have e3:y=rt+1:=e;omega),fun y hy=>by
     rcases hn2.out y hy with e | e
     · exact hn.out y e
     · exact .inr (by have:=hc.out.size;omega)⟩
   clear hX2r hn2 hc2 hW2 hW' hc hn hnr hnq BQ BR
   go_wp2_with (first
    | (with_reducible refine AC rfl (.tmp 11) rfl q rfl ov BQ4 ?_)
    | (with_reducible refine Ao (r:=rt+1) (z:=slt0) rfl rfl (.tmp 8) (.tmp 33) rfl BR4 ov rfl rfl ?_))
   obtain ⟨e1,e2⟩:=Ab BR4 ov
   change bodyPost _ _ _ _ _ (Ac w4 (rt+1) ov)
   generalize Ac w4 (rt+1) ov=w6 at *
   have hE6:=EntAt.of e1
   refine bodyPost_ret (v:=.tuple #[ov.val,.int .u64 oc,.int .i64 0]) (DD _ _ _ _ _ _ rfl rfl rfl hE6) rfl ?_
   exact ⟨rfl,by first | exact hT4.out _ e2 | (rw [if_pos rfl];exact hT4.out _ e2)⟩
  ·
   have hne:(oe==0)=false:=by simpa using h0
   replace h0:=Lib.hid h0
   have hT4:=Lib.hid fun (wz:World) (hk:Chg (·=rt+1) wc wz)=>show (Ag k r s1).To w wz X from
    ⟨X',dkeepOb_ok.chg hW' hk (fun y hy e=>hnr.out (by have e3:y=rt+1:=e;exact e3 ▸ hy)),hc.trans hk (fun y hy e=>by have e3:y=rt+1:=e;omega),hn.out⟩
   clear hW' hc hn hnr hnq
   go_wp2_with (first
    | (with_reducible refine AC rfl (.tmp 11) rfl q rfl ov BQ ?_)
    | (with_reducible refine Ao (r:=rt+1) (z:=slt0) rfl rfl (.tmp 8) (.tmp 33) rfl BR ov rfl rfl ?_))
   obtain ⟨e1,e2⟩:=Ab BR ov
   change bodyPost _ _ _ _ _ (Ac wc (rt+1) ov)
   generalize Ac wc (rt+1) ov=w6 at *
   have hE6:=EntAt.of e1
   refine bodyPost_ret (v:=.tuple #[ov.val,.int .u64 oc,.int .i64 oe]) (DD _ _ _ _ _ _ rfl rfl rfl hE6) rfl ?_
   exact ⟨rfl,by first | exact hT4.out _ e2 | (rw [if_neg h0.out];exact hT4.out _ e2)⟩
theorem Cb (F:Array Value) (q:Nat) (x:Slt) (o:Bool) (W:World) (h8:F[8]?=some (.pointer (some ⟨q,0,none⟩))) (h9:F[9]?=some (.bool o)) (hE:EntAt q x W):Sem.run Tryz.prog (results Tryz.f49 F) W=.ok (.tuple #[x.val,.bool o]) W:=by
 obtain ⟨r0,r1,r2,r3,r4,r5,r6,r7,r8,r9,r10,r11,r12,r13⟩:=hE
 simp [results,Tryz.results49,go_sem,h8,h9,r0,r1,r2,r3,r4,r5,r6,r7,r8,r9,r10,r11,r12,r13]
set_option maxRecDepth 100000 in
set_option maxHeartbeats 8000000 in
theorem ML (hI:KI r s) (h:Ag k r s w X) (t:Tup) (ht:tupWf t) (n:Nat) (hn64:n<18446744073709551616) (fl:Int) :
  Calls Tryz.prog 49 #[ptr0 k.g,t.val,.int .u64 (n:Int),.int .i64 fl] w fun e w'=>e=.returned (.tuple #[(AR r s t n fl).val,.bool (Bv r s t n)])∧(Ag k r (E2 r s t n fl)).To w w' X:=by
 have hlt:=fun y (hy:X y)=>dkeepOb_ok.lt h hy
 obtain ⟨b,hb⟩:∃ b,isT t=b:=⟨_,rfl⟩
 have hbp:(t.p==6)=b:=hb
 obtain ⟨hnp,hp1,hp16⟩:=C4 hI.ok
 have hti:=hI.lk b
 have hR:(r.rb b).cfg.right:=DB (Bf hI.ok b)
 obtain ⟨s1,hs1⟩:∃ s1:KSt,{ s with S:=kUpd r s t (Bn (r.rb (isT t)) (r.n (isT t)) (kPt r s t) t n fl) }=s1:=⟨_,rfl⟩
 have hM1:s1.M=s.M:=by rw [← hs1]
 have hfin:E2 r s t n fl=if (Bv r s t n && (AR r s t n fl).st==4)=true then { s1 with M:=lmAdd s.M (AR r s t n fl).bk (-1) } else s1:=by
  rw [← hs1]
  unfold E2
  split <;> rfl
 have hbk:(Bv r s t n && (AR r s t n fl).st==4)=true→(Lit.int .i64 (AR r s t n fl).bk).wf=true:=fun h0=>hI.touch_bk h0
 have hpos:lmPos s1.M:=by rw [hM1];exact hI.ld.pos
 have hml:s1.M.length≤131072:=by rw [hM1];exact hI.mlen
 have hsrt:AA s1.M:=by rw [hM1];exact hI.ld.srt
 have B1:=(Blk.new w 47 t.cells.toArray).alloc (.cells #[.int .i64 0,.bool false,.int .u64 0,.int .u64 0,.bool false,.int .u64 0,.int .u64 0,.int .i64 0,.int .i64 0,.int .i64 0,.int .i64 0,.int .i64 0,.int .u64 0,.int .i64 0] 52)
 have B2:Blk ((w.alloc (.cells t.cells.toArray 47)).alloc (.cells #[.int .i64 0,.bool false,.int .u64 0,.int .u64 0,.bool false,.int .u64 0,.int .u64 0,.int .i64 0,.int .i64 0,.int .i64 0,.int .i64 0,.int .i64 0,.int .u64 0,.int .i64 0] 52)) (w.alloc (.cells t.cells.toArray 47)).heap.size 52 slt0.entA:=Blk.new (w.alloc (.cells t.cells.toArray 47)) 52 slt0.entA
 have hb0:Below w.heap.size w ((w.alloc (.cells t.cells.toArray 47)).alloc (.cells #[.int .i64 0,.bool false,.int .u64 0,.int .u64 0,.bool false,.int .u64 0,.int .u64 0,.int .i64 0,.int .i64 0,.int .i64 0,.int .i64 0,.int .i64 0,.int .u64 0,.int .i64 0] 52)):=Aa (Aa (Below.refl _ _) _) _
 rw [World.size_alloc] at B2
 have h1:=dkeepOb_ok.call h hb0
 have OP0:=fun (W:World) (hbW:Below ((w.alloc (.cells t.cells.toArray 47)).alloc (.cells #[.int .i64 0,.bool false,.int .u64 0,.int .u64 0,.bool false,.int .u64 0,.int .u64 0,.int .i64 0,.int .i64 0,.int .i64 0,.int .i64 0,.int .i64 0,.int .u64 0,.int .i64 0] 52)).heap.size ((w.alloc (.cells t.cells.toArray 47)).alloc (.cells #[.int .i64 0,.bool false,.int .u64 0,.int .u64 0,.bool false,.int .u64 0,.int .u64 0,.int .i64 0,.int .i64 0,.int .i64 0,.int .i64 0,.int .i64 0,.int .u64 0,.int .i64 0] 52)) W)=>show Calls Tryz.prog 20 #[ptr0 (k.gb b),t.val,.int .u64 (n:Int),.int .i64 fl] W fun e w'=>e=.returned (.tuple #[(AR r s t n fl).val,.bool (Bv r s t n)])∧(Ag k r s1).To W w' X from by
  obtain ⟨X1,k1,-,k2⟩:=Dq b (dkeepOb_ok.call h1 hbW)
  rw [← hs1]
  subst hb
  refine (Je k1 hti.ti hR t ht n hn64 fl).mono ?_
  rintro e w' ⟨rfl,hT⟩
  exact ⟨rfl,k2 _ _ hT⟩
 rw [hfin]
 obtain ⟨ov,hov⟩:∃ v,AR r s t n fl=v:=⟨_,rfl⟩
 obtain ⟨oo,hoo⟩:∃ v,Bv r s t n=v:=⟨_,rfl⟩
 rw [hov,hoo] at OP0 hbk
 rw [hov,hoo]
 rw [← hM1]
 clear hM1 hfin hov hoo hs1 hti hR h hnp hp1 hp16 hI
 go_enter Tryz.func49,Tryz.ntmps49
 go_upto_region 1 with fail
 change Code.wp _ _ _ _ ((w.alloc (.cells t.cells.toArray 47)).alloc (.cells #[.int .i64 0,.bool false,.int .u64 0,.int .u64 0,.bool false,.int .u64 0,.int .u64 0,.int .i64 0,.int .i64 0,.int .i64 0,.int .i64 0,.int .i64 0,.int .u64 0,.int .i64 0] 52))
 have hw1:((w.alloc (.cells t.cells.toArray 47)).alloc (.cells #[.int .i64 0,.bool false,.int .u64 0,.int .u64 0,.bool false,.int .u64 0,.int .u64 0,.int .i64 0,.int .i64 0,.int .i64 0,.int .i64 0,.int .i64 0,.int .u64 0,.int .i64 0] 52)).heap.size=w.heap.size+2:=by rw [World.size_alloc,World.size_alloc]
 generalize (w.alloc (.cells t.cells.toArray 47)).alloc (.cells #[.int .i64 0,.bool false,.int .u64 0,.int .u64 0,.bool false,.int .u64 0,.int .u64 0,.int .i64 0,.int .i64 0,.int .i64 0,.int .i64 0,.int .i64 0,.int .u64 0,.int .i64 0] 52)=w1 at *
 obtain ⟨rt,hrt⟩:∃ rt,w.heap.size=rt:=⟨_,rfl⟩
 rw [hrt] at B1 B2 hw1
 try rw [hrt]
 have hXrt:∀ y,X y→y<rt:=fun y hy=>by have:=hlt y hy;omega
 have OF:=Lib.hid fun (W:World) (hbW:Below w1.heap.size w1 W)=>show Calls Tryz.prog 47 #[ptr0 k.g,.int .i64 t.p] W fun e w'=>e=.returned (ptr0 (k.gb b))∧Below W.heap.size W w' from by
  have:=Gx (dkeepOb_ok.call h1 hbW) t.p
  rwa [hbp] at this
 have OP:=Lib.hid OP0
 clear OP0
 have hS1:TupAt rt t w1.drew:=TupAt.of B1
 have FIN:∀ (q:Nat) (W w3 wX:World),Below w1.heap.size w1 W→(Ag k r s1).To W w3 X→(∃ F:Nat→Prop,Chg F w3 wX∧∀ y,¬ F y)→w1.heap.size≤q→(q<W.heap.size∨w3.heap.size≤q)→Blk wX q 52 slt0.entA →
   rt+1<q∧Blk (Ac wX q ov) q 52 ov.entA∧Blk (Ac wX q ov) (rt+1) 52 slt0.entA∧∃ X',Ag k r s1 (Ac wX q ov) X'∧Chg X w (Ac wX q ov)∧(∀ y,X' y→X y∨w.heap.size≤y)∧¬ X' (rt+1)∧¬ X' q :=
  fun q W w3 wX hb hT hF hq1 hq2 hB=>Eh dkeepOb_ok hb0 hlt hrt (by omega) B2 hb hT hF hq1 hq2 hB ov
 replace FIN:=Lib.hid FIN
 have hYr:¬ X rt:=fun e=>by have:=hXrt _ e;omega
 have hYq:∀ q,w1.heap.size≤q→¬ X q:=fun q hq e=>by have:=hXrt _ e;omega
 replace hbk:=Lib.hid hbk
 replace hpos:=Lib.hid hpos
 replace hsrt:=Lib.hid hsrt
 clear B1 B2 hlt h1
 go_cut [10,11] from 12 to 23 (fun x10 x11 wx=>∃ q,x10=.pointer (some ⟨q,0,none⟩)∧x11=.bool oo∧rt+1<q∧Blk wx q 52 ov.entA∧Blk wx (rt+1) 52 slt0.entA∧∃ X',Ag k r s1 wx X'∧Chg X w wx∧(∀ y,X' y→X y∨w.heap.size≤y)∧¬ X' (rt+1)∧¬ X' q)
 case first =>
  as_aux_lemma =>
  refine wp_region_held_drew (S:=TupAt rt t) (by kernel_rfl) hS1 (fun hHeld=>?_)
  have hd:Below w1.heap.size w1 w1.drew:=(Below.refl _ _).drew
  have hzd:w1.drew.heap.size=w1.heap.size:=rfl
  generalize w1.drew=wd at *
  replace hzd:=Lib.hid hzd
  refine tq 0 ?_;try go_frame
  refine tq 1 ?_;try go_frame
  refine tq 2 ?_;try go_frame
  refine tq 4 ?_;try go_frame
  refine tq 5 ?_;try go_frame
  refine tq 6 ?_;try go_frame
  refine wpAnyH_ready (rs:=[3,11]) (by kernel_rfl) (by simp) ?_;refine consH rfl (fun K hK=>?_) (consH rfl (fun K hK=>?_) AllReadyH.nil)
  ·
   go_simp
   (go_at_call 47;(with_reducible refine (OF.out _ hd).mono ?_))
   rintro e w2 ⟨rfl,hb2⟩
   refine hK.out _ _ (hHeld.call hb2) (fun hHeld=>?_)
   clear hK K
   try go_frame
   refine wpAnyH_ready (rs:=[7,11]) (by kernel_rfl) (by simp) ?_;refine consH rfl (fun K hK=>?_) (consH rfl (fun K hK=>?_) AllReadyH.nil)
   ·
    go_simp
    (go_at_call 20;(with_reducible refine (OP.out _ (A8 hb2 hd)).mono ?_))
    rintro e w3 ⟨rfl,hT3⟩
    refine hK.out _ _ (hHeld.chg (AK hT3) hYr) (fun hHeld=>?_)
    clear hK K
    try go_frame
    refine tq 8 ?_;try go_frame
    refine tq 9 ?_;try go_frame
    refine tq 10 ?_;try go_frame
    refine oneH 11 fun K hK=>?_
    go_simp
    refine hK.out _ _ (hHeld.call (Aa (Below.refl _ _) _)) (fun hHeld=>?_)
    clear hK K
    try go_frame
    have hsz:=(AK hT3).size
    have hsz2:=hb2.size
    refine oneH 12 fun K hK=>?_
    rw [if_pos (by rfl)]
    have BQ:Blk (w3.alloc (.cells #[.int .i64 0,.bool false,.int .u64 0,.int .u64 0,.bool false,.int .u64 0,.int .u64 0,.int .i64 0,.int .i64 0,.int .i64 0,.int .i64 0,.int .i64 0,.int .u64 0,.int .i64 0] 52)) w3.heap.size 52 slt0.entA:=Blk.new w3 52 slt0.entA
    with_reducible refine Ae (r:=w3.heap.size) (z:=slt0) (.tmp 10) (.tmp 21) rfl BQ ov rfl rfl ?_
    refine hK.out _ _ (hHeld.chg (Ab BQ ov).2 (fun e=>by have e2:rt=w3.heap.size:=e;have h9:=hzd.out;omega)) (fun hHeld=>?_)
    clear hK K
    try go_frame
    refine tq 13 ?_;try go_frame
    refine wpAnyH_done (by kernel_rfl) ?_ _
    go_wp2_with fail
    go_meet
    exact ⟨w3.heap.size,rfl,rfl,FIN.out w3.heap.size w2 w3 _ (A8 hb2 hd) hT3 ⟨fun _=>False,Chg.of_below (Aa (Below.refl _ _) _),fun _ h=>h⟩ (by have h9:=hzd.out;omega) (.inr (Nat.le_refl _)) BQ⟩
   ·
    go_simp
    refine hK.out _ _ (hHeld.call (Aa (Below.refl _ _) _)) (fun hHeld=>?_)
    clear hK K
    try go_frame
    refine oneH 7 fun K hK=>?_
    go_simp
    (go_at_call 20;(with_reducible refine (OP.out _ (A8 (Aa (Below.refl w2.heap.size w2) (.cells #[.int .i64 0,.bool false,.int .u64 0,.int .u64 0,.bool false,.int .u64 0,.int .u64 0,.int .i64 0,.int .i64 0,.int .i64 0,.int .i64 0,.int .i64 0,.int .u64 0,.int .i64 0] 52)) (A8 hb2 hd))).mono ?_))
    rintro e w3 ⟨rfl,hT3⟩
    refine hK.out _ _ (hHeld.chg (AK hT3) hYr) (fun hHeld=>?_)
    clear hK K
    try go_frame
    refine tq 8 ?_;try go_frame
    refine tq 9 ?_;try go_frame
    refine tq 10 ?_;try go_frame
    have hsz2:=hb2.size
    have hsa:(w2.alloc (.cells #[.int .i64 0,.bool false,.int .u64 0,.int .u64 0,.bool false,.int .u64 0,.int .u64 0,.int .i64 0,.int .i64 0,.int .i64 0,.int .i64 0,.int .i64 0,.int .u64 0,.int .i64 0] 52)).heap.size=w2.heap.size+1:=World.size_alloc _ _
    refine oneH 12 fun K hK=>?_
    rw [if_pos (by rfl)]
    have BQ:Blk w3 w2.heap.size 52 slt0.entA:=(Blk.new w2 52 slt0.entA).chg (AK hT3) (hYq _ (by have h9:=hzd.out;omega))
    with_reducible refine Ae (r:=w2.heap.size) (z:=slt0) (.tmp 10) (.tmp 21) rfl BQ ov rfl rfl ?_
    refine hK.out _ _ (hHeld.chg (Ab BQ ov).2 (fun e=>by have e2:rt=w2.heap.size:=e;have h9:=hzd.out;omega)) (fun hHeld=>?_)
    clear hK K
    try go_frame
    refine tq 13 ?_;try go_frame
    refine wpAnyH_done (by kernel_rfl) ?_ _
    go_wp2_with fail
    go_meet
    exact ⟨w2.heap.size,rfl,rfl,FIN.out w2.heap.size (w2.alloc (.cells #[.int .i64 0,.bool false,.int .u64 0,.int .u64 0,.bool false,.int .u64 0,.int .u64 0,.int .i64 0,.int .i64 0,.int .i64 0,.int .i64 0,.int .i64 0,.int .u64 0,.int .i64 0] 52)) w3 _ (A8 (Aa (Below.refl w2.heap.size w2) (.cells #[.int .i64 0,.bool false,.int .u64 0,.int .u64 0,.bool false,.int .u64 0,.int .u64 0,.int .i64 0,.int .i64 0,.int .i64 0,.int .i64 0,.int .i64 0,.int .u64 0,.int .i64 0] 52)) (A8 hb2 hd)) hT3 ⟨fun _=>False,Chg.refl _ _,fun _ h=>h⟩ (by have h9:=hzd.out;omega) (.inl (by omega)) BQ⟩
  ·
   go_simp
   refine hK.out _ _ (hHeld.call (Aa (Below.refl _ _) _)) (fun hHeld=>?_)
   clear hK K
   try go_frame
   refine oneH 3 fun K hK=>?_
   go_simp
   (go_at_call 47;(with_reducible refine (OF.out _ (A8 (Aa (Below.refl wd.heap.size wd) (.cells #[.int .i64 0,.bool false,.int .u64 0,.int .u64 0,.bool false,.int .u64 0,.int .u64 0,.int .i64 0,.int .i64 0,.int .i64 0,.int .i64 0,.int .i64 0,.int .u64 0,.int .i64 0] 52)) hd)).mono ?_))
   rintro e w2 ⟨rfl,hb2⟩
   refine hK.out _ _ (hHeld.call hb2) (fun hHeld=>?_)
   clear hK K
   try go_frame
   refine oneH 7 fun K hK=>?_
   go_simp
   (go_at_call 20;(with_reducible refine (OP.out _ (A8 hb2 (A8 (Aa (Below.refl wd.heap.size wd) (.cells #[.int .i64 0,.bool false,.int .u64 0,.int .u64 0,.bool false,.int .u64 0,.int .u64 0,.int .i64 0,.int .i64 0,.int .i64 0,.int .i64 0,.int .i64 0,.int .u64 0,.int .i64 0] 52)) hd))).mono ?_))
   rintro e w3 ⟨rfl,hT3⟩
   refine hK.out _ _ (hHeld.chg (AK hT3) hYr) (fun hHeld=>?_)
   clear hK K
   try go_frame
   refine tq 8 ?_;try go_frame
   refine tq 9 ?_;try go_frame
   refine tq 10 ?_;try go_frame
   have hsz2:=hb2.size
   have hsa:(wd.alloc (.cells #[.int .i64 0,.bool false,.int .u64 0,.int .u64 0,.bool false,.int .u64 0,.int .u64 0,.int .i64 0,.int .i64 0,.int .i64 0,.int .i64 0,.int .i64 0,.int .u64 0,.int .i64 0] 52)).heap.size=wd.heap.size+1:=World.size_alloc _ _
   refine oneH 12 fun K hK=>?_
   rw [if_pos (by rfl)]
   have BQ:Blk w3 wd.heap.size 52 slt0.entA:=((Blk.new wd 52 slt0.entA).call hb2).chg (AK hT3) (hYq _ (by have h9:=hzd.out;omega))
   with_reducible refine Ae (r:=wd.heap.size) (z:=slt0) (.tmp 10) (.tmp 21) rfl BQ ov rfl rfl ?_
   refine hK.out _ _ (hHeld.chg (Ab BQ ov).2 (fun e=>by have e2:rt=wd.heap.size:=e;have h9:=hzd.out;omega)) (fun hHeld=>?_)
   clear hK K
   try go_frame
   refine tq 13 ?_;try go_frame
   refine wpAnyH_done (by kernel_rfl) ?_ _
   go_wp2_with fail
   go_meet
   exact ⟨wd.heap.size,rfl,rfl,FIN.out wd.heap.size w2 w3 _ (A8 hb2 (A8 (Aa (Below.refl wd.heap.size wd) (.cells #[.int .i64 0,.bool false,.int .u64 0,.int .u64 0,.bool false,.int .u64 0,.int .u64 0,.int .i64 0,.int .i64 0,.int .i64 0,.int .i64 0,.int .i64 0,.int .u64 0,.int .i64 0] 52)) hd)) hT3 ⟨fun _=>False,Chg.refl _ _,fun _ h=>h⟩ (by have h9:=hzd.out;omega) (.inl (by omega)) BQ⟩
 case rest =>
  as_aux_lemma =>
  obtain ⟨q,rfl,rfl,hq,BQ,BR,X',hW',hc,hn,hnr,hnq⟩:=hcut
  clear FIN OP OF hYr hYq hXrt hS1
  have c10:wc.cell? ⟨q,10,none⟩=some (.int .i64 ov.st):=BQ.cell 10
  have c9:wc.cell? ⟨q,9,none⟩=some (.int .i64 ov.bk):=BQ.cell 9
  replace hn:=Lib.hid hn
  replace hnr:=Lib.hid hnr
  replace hnq:=Lib.hid hnq
  by_cases h0:(oo && ov.st==4)=true
  ·
   obtain ⟨e1,e2⟩:oo=true∧ov.st=4:=by simpa using h0
   subst e1
   rw [e2] at c10
   replace e2:=Lib.hid e2
   have hbw:=hbk.out h0
   replace h0:=Lib.hid h0
   have hAd:=Lib.hid fun (W:World) (hbW:Below wc.heap.size wc W)=>H5 (dkeepOb_ok.call hW' hbW) ov.bk (-1) hsrt.out hpos.out (by omega) (by omega)
   replace BQ:=Lib.hid BQ
   replace BR:=Lib.hid BR
   replace hW':=Lib.hid hW'
   replace hc:=Lib.hid hc
   go_upto_region 3 with fail
   refine wp_region_held_drew (S:=fun W=>W.cell? ⟨q,9,none⟩=some (.int .i64 ov.bk)) (by kernel_rfl) (show wc.drew.cell? _=_ from c9) (fun hHeld=>?_)
   have hd:Below wc.heap.size wc wc.drew:=(Below.refl _ _).drew
   generalize wc.drew=wd at *
   refine tq 0 ?_;try go_frame
   refine tq 1 ?_;try go_frame
   refine tq 2 ?_;try go_frame
   refine tq 3 ?_;try go_frame
   refine tq 4 ?_;try go_frame
   refine oneH 5 fun K hK=>?_
   go_simp
   (go_at_call 105;(with_reducible refine (hAd.out _ hd).mono ?_))
   rintro e w4 ⟨rfl,hT4⟩
   refine hK.out _ _ ((Af (AK hT4) (A0 hHeld) hnq.out).trans hHeld) (fun hHeld=>?_)
   clear hK K
   try go_frame
   refine wpAnyH_done (by kernel_rfl) ?_ _
   replace hT4:=Ob.To.below hd hT4
   clear hHeld hd
   obtain ⟨X2,hW2,hc2,hn2⟩:=hT4
   have hz4:=hc2.size
   have BQ4:=BQ.out.chg hc2 hnq.out
   have BR4:=BR.out.chg hc2 hnr.out
   have hlq:=BQ.out.lt
   have hlr:=BR.out.lt
   have hX2r:¬ X2 (rt+1):=fun e=>by
    rcases hn2 _ e with e | e
    · exact hnr.out e
    · omega
   replace hW2:=Lib.hid hW2
   replace hc2:=Lib.hid hc2
   replace hn2:=Lib.hid hn2
   have hT4:=Lib.hid fun (wz:World) (hk:Chg (·=rt+1) w4 wz)=>show (Ag k r { s1 with M:=lmAdd s1.M ov.bk (-1) }).To w wz X from
    ⟨X2,dkeepOb_ok.chg hW2.out hk (fun y hy e=>hX2r (by have e3:y=rt+1:=e;exact e3 ▸ hy)),(hc.out.trans hc2.out (fun y hy e=>by rcases hn.out y e with h | h <;> first | exact h | omega)).trans hk (fun y hy e=>by have e3:y=rt+1:=e;omega),fun y hy=>by
     rcases hn2.out y hy with e | e
     · exact hn.out y e
     · exact .inr (by have:=hc.out.size;omega)⟩
   clear hX2r hn2 hc2 hW2 hW' hc hn hnr hnq BQ BR
   go_wp2_with (first
    | (with_reducible refine AC rfl (.tmp 10) rfl q rfl ov BQ4 ?_)
    | (with_reducible refine Ao (r:=rt+1) (z:=slt0) rfl rfl (.tmp 8) (.tmp 35) rfl BR4 ov rfl rfl ?_))
   obtain ⟨e1,e2⟩:=Ab BR4 ov
   change bodyPost _ _ _ _ _ (Ac w4 (rt+1) ov)
   generalize Ac w4 (rt+1) ov=w6 at *
   have hE6:=EntAt.of e1
   refine bodyPost_ret (v:=.tuple #[ov.val,.bool true]) (Cb _ _ _ _ _ rfl rfl hE6) rfl ?_
   exact ⟨rfl,by first | exact hT4.out _ e2 | (rw [if_pos h0.out];exact hT4.out _ e2)⟩
  ·
   have hcz:(oo=true→(ov.st==4)=false):=fun e=>by
    subst e
    cases e2:ov.st==4
    · rfl
    · exact absurd (by rw [e2];rfl) h0
   replace h0:=Lib.hid h0
   have hT4:=Lib.hid fun (wz:World) (hk:Chg (·=rt+1) wc wz)=>show (Ag k r s1).To w wz X from
    ⟨X',dkeepOb_ok.chg hW' hk (fun y hy e=>hnr.out (by have e3:y=rt+1:=e;exact e3 ▸ hy)),hc.trans hk (fun y hy e=>by have e3:y=rt+1:=e;omega),hn.out⟩
   clear hW' hc hn hnr hnq c9
   cases oo
   ·
    clear hcz c10
    go_wp2_with (first
     | (with_reducible refine AC rfl (.tmp 10) rfl q rfl ov BQ ?_)
     | (with_reducible refine Ao (r:=rt+1) (z:=slt0) rfl rfl (.tmp 8) (.tmp 35) rfl BR ov rfl rfl ?_))
    obtain ⟨e1,e2⟩:=Ab BR ov
    change bodyPost _ _ _ _ _ (Ac wc (rt+1) ov)
    generalize Ac wc (rt+1) ov=w6 at *
    have hE6:=EntAt.of e1
    refine bodyPost_ret (v:=.tuple #[ov.val,.bool false]) (Cb _ _ _ _ _ rfl rfl hE6) rfl ?_
    exact ⟨rfl,by first | exact hT4.out _ e2 | (rw [if_neg h0.out];exact hT4.out _ e2)⟩
   ·
    replace hcz:=hcz rfl
    go_wp2_with (first
     | (with_reducible refine AC rfl (.tmp 10) rfl q rfl ov BQ ?_)
     | (with_reducible refine Ao (r:=rt+1) (z:=slt0) rfl rfl (.tmp 8) (.tmp 35) rfl BR ov rfl rfl ?_))
    obtain ⟨e1,e2⟩:=Ab BR ov
    change bodyPost _ _ _ _ _ (Ac wc (rt+1) ov)
    generalize Ac wc (rt+1) ov=w6 at *
    have hE6:=EntAt.of e1
    refine bodyPost_ret (v:=.tuple #[ov.val,.bool true]) (Cb _ _ _ _ _ rfl rfl hE6) rfl ?_
    exact ⟨rfl,by first | exact hT4.out _ e2 | (rw [if_neg h0.out];exact hT4.out _ e2)⟩
end
end Go.Proofs.YteklkljndchjiaaGreat
