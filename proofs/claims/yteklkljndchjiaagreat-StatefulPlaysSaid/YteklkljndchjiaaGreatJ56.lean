/- stateful: a keeper's Touch and Find. stateful: Open, Find and Cookie of keepers that nobody made. stateful: the chapter's example, called. -/
import Derived.Test.YteklkljndchjiaaGreatJ34
import Derived.Great.BuildSlice
import Derived.Test.YteklkljndchjiaaGreatJ53
import Derived.Test.YteklkljndchjiaaGreatJ52
import Derived.Test.YteklkljndchjiaaGreatJ46
namespace Go.Proofs.YteklkljndchjiaaGreat
open Go Go.RowKit Go.Deep Go.Maps Go.ChangeMaps
theorem GU {ops:Array Oper} {rest:List Oper} {o:Oper} {a:Act} {w:World} {Q:Exit→Act→World→Prop} (hg:o.guard=none) (x:Operand) (ho:o.op=.buildSlice 58 1 #[(0,x)]) (v:Slt) (hx:a.eval x=.agg v.entA)
  (h:wpList Tryz.prog ops Q rest (a.put o.dst (.slice (some ⟨w.heap.size,0,none⟩) 1 1)) (w.alloc (.cells v.entA 52))):wpList Tryz.prog ops Q (o :: rest) a w:=by
 obtain ⟨ie,hi,hz,hs,hb⟩:=info_parts Ip
 refine wpList_buildSlice hg 58 52 1 _ ho v.entA ie (.agg slt0.entA) Tryz.underlying58 hi hz (by rw [hs];decide) (by rw [hs];decide) ?_ h
 rw [hs]
 simp only [List.map_toArray,List.map_cons,List.map_nil,hx]
 kernel_rfl
end Go.Proofs.YteklkljndchjiaaGreat
namespace Go.Proofs.YteklkljndchjiaaGreat
open Go Go.RowKit Go.Deep Go.Maps Go.ChangeMaps
section
variable {w w':World} {X F:Nat→Prop} {k:KPtr} {r:KRule} {s:KSt}
theorem Ch (F:Array Value) (q:Nat) (x:Slt) (o:Bool) (W:World) (h8:F[8]?=some (.pointer (some ⟨q,0,none⟩))) (h9:F[9]?=some (.bool o)) (hE:EntAt q x W):Sem.run Tryz.prog (results Tryz.f48 F) W=.ok (.tuple #[x.val,.bool o]) W:=by
 obtain ⟨r0,r1,r2,r3,r4,r5,r6,r7,r8,r9,r10,r11,r12,r13⟩:=hE
 simp [results,Tryz.results48,go_sem,h8,h9,r0,r1,r2,r3,r4,r5,r6,r7,r8,r9,r10,r11,r12,r13]
set_option maxRecDepth 100000 in
set_option maxHeartbeats 8000000 in
theorem Om (hI:KI r s) (h:Aj k r s w X) (t:Tup) (_ht:tupWf t) (n:Nat) (hn64:n<18446744073709551616) (fl:Int) :
  Calls Tryz.prog 48 #[ptr0 k.g,t.val,.int .u64 (n:Int),.int .i64 fl] w fun e w'=>e=.returned (.tuple #[(AR r s t n fl).val,.bool (Bv r s t n)])∧(Aj k r (E2 r s t n fl)).To w w' X:=by
 have hlt:=fun y (hy:X y)=>keepOb_ok.lt h hy
 obtain ⟨b,hb⟩:∃ b,isT t=b:=⟨_,rfl⟩
 have hbp:(t.p==6)=b:=hb
 obtain ⟨hnp,hp1,hp16⟩:=C4 hI.ok
 have hti:=hI.lk b
 have hR:(r.rb b).cfg.right:=DB (Bf hI.ok b)
 obtain ⟨s1,hs1⟩:∃ s1:KSt,{ s with S:=kUpd r s t (Bn (r.rb (isT t)) (r.n (isT t)) (kPt r s t) t n fl) }=s1:=⟨_,rfl⟩
 have hM1:s1.M=s.M:=by rw [← hs1]
 have hfin:E2 r s t n fl=if (Bv r s t n && (AR r s t n fl).st==4)=true then { s1 with M:=lmAdd s.M (AR r s t n fl).bk (-1) } else s1:=by
  rw [← hs1]
  unfold E2
  split <;> rfl
 have hbk:(Bv r s t n && (AR r s t n fl).st==4)=true→(Lit.int .i64 (AR r s t n fl).bk).wf=true:=fun h0=>hI.touch_bk h0
 have hpos:lmPos s1.M:=by rw [hM1];exact hI.ld.pos
 have hml:s1.M.length≤131072:=by rw [hM1];exact hI.mlen
 have B1:=(Blk.new w 47 t.cells.toArray).alloc (.cells #[.int .i64 0,.bool false,.int .u64 0,.int .u64 0,.bool false,.int .u64 0,.int .u64 0,.int .i64 0,.int .i64 0,.int .i64 0,.int .i64 0,.int .i64 0,.int .u64 0,.int .i64 0] 52)
 have B2:Blk ((w.alloc (.cells t.cells.toArray 47)).alloc (.cells #[.int .i64 0,.bool false,.int .u64 0,.int .u64 0,.bool false,.int .u64 0,.int .u64 0,.int .i64 0,.int .i64 0,.int .i64 0,.int .i64 0,.int .i64 0,.int .u64 0,.int .i64 0] 52)) (w.alloc (.cells t.cells.toArray 47)).heap.size 52 slt0.entA:=Blk.new (w.alloc (.cells t.cells.toArray 47)) 52 slt0.entA
 have hb0:Below w.heap.size w ((w.alloc (.cells t.cells.toArray 47)).alloc (.cells #[.int .i64 0,.bool false,.int .u64 0,.int .u64 0,.bool false,.int .u64 0,.int .u64 0,.int .i64 0,.int .i64 0,.int .i64 0,.int .i64 0,.int .i64 0,.int .u64 0,.int .i64 0] 52)):=Aa (Aa (Below.refl _ _) _) _
 rw [World.size_alloc] at B2
 have h1:=keepOb_ok.call h hb0
 have OP0:=fun (W:World) (hbW:Below ((w.alloc (.cells t.cells.toArray 47)).alloc (.cells #[.int .i64 0,.bool false,.int .u64 0,.int .u64 0,.bool false,.int .u64 0,.int .u64 0,.int .i64 0,.int .i64 0,.int .i64 0,.int .i64 0,.int .i64 0,.int .u64 0,.int .i64 0] 52)).heap.size ((w.alloc (.cells t.cells.toArray 47)).alloc (.cells #[.int .i64 0,.bool false,.int .u64 0,.int .u64 0,.bool false,.int .u64 0,.int .u64 0,.int .i64 0,.int .i64 0,.int .i64 0,.int .i64 0,.int .i64 0,.int .u64 0,.int .i64 0] 52)) W)=>show Calls Tryz.prog 19 #[ptr0 (k.gb b),t.val,.int .u64 (n:Int),.int .i64 fl] W fun e w'=>e=.returned (.tuple #[(AR r s t n fl).val,.bool (Bv r s t n)])∧(Aj k r s1).To W w' X from by
  obtain ⟨X1,k1,-,k2⟩:=Ef b (keepOb_ok.call h1 hbW)
  rw [← hs1]
  subst hb
  refine (NT k1 hti.ti hR t n hn64 fl).mono ?_
  rintro e w' ⟨rfl,hT⟩
  exact ⟨rfl,k2 _ _ hT⟩
 rw [hfin]
 obtain ⟨ov,hov⟩:∃ v,AR r s t n fl=v:=⟨_,rfl⟩
 obtain ⟨oo,hoo⟩:∃ v,Bv r s t n=v:=⟨_,rfl⟩
 rw [hov,hoo] at OP0 hbk
 rw [hov,hoo]
 rw [← hM1]
 clear hM1 hfin hov hoo hs1 hti hR h hnp hp1 hp16 hI
 go_enter Tryz.func48,Tryz.ntmps48
 go_upto_region 1 with fail
 change Code.wp _ _ _ _ ((w.alloc (.cells t.cells.toArray 47)).alloc (.cells #[.int .i64 0,.bool false,.int .u64 0,.int .u64 0,.bool false,.int .u64 0,.int .u64 0,.int .i64 0,.int .i64 0,.int .i64 0,.int .i64 0,.int .i64 0,.int .u64 0,.int .i64 0] 52))
 have hw1:((w.alloc (.cells t.cells.toArray 47)).alloc (.cells #[.int .i64 0,.bool false,.int .u64 0,.int .u64 0,.bool false,.int .u64 0,.int .u64 0,.int .i64 0,.int .i64 0,.int .i64 0,.int .i64 0,.int .i64 0,.int .u64 0,.int .i64 0] 52)).heap.size=w.heap.size+2:=by rw [World.size_alloc,World.size_alloc]
 generalize (w.alloc (.cells t.cells.toArray 47)).alloc (.cells #[.int .i64 0,.bool false,.int .u64 0,.int .u64 0,.bool false,.int .u64 0,.int .u64 0,.int .i64 0,.int .i64 0,.int .i64 0,.int .i64 0,.int .i64 0,.int .u64 0,.int .i64 0] 52)=w1 at *
 obtain ⟨rt,hrt⟩:∃ rt,w.heap.size=rt:=⟨_,rfl⟩
 rw [hrt] at B1 B2 hw1
 try rw [hrt]
 have hXrt:∀ y,X y→y<rt:=fun y hy=>by have:=hlt y hy;omega
 have OF:=Lib.hid fun (W:World) (hbW:Below w1.heap.size w1 W)=>show Calls Tryz.prog 103 #[ptr0 k.g,.int .i64 t.p] W fun e w'=>e=.returned (ptr0 (k.gb b))∧Below W.heap.size W w' from by
  have:=HI (keepOb_ok.call h1 hbW) t.p
  rwa [hbp] at this
 have OP:=Lib.hid OP0
 clear OP0
 have hS1:TupAt rt t w1.drew:=TupAt.of B1
 have FIN:∀ (q:Nat) (W w3 wX:World),Below w1.heap.size w1 W→(Aj k r s1).To W w3 X→(∃ F:Nat→Prop,Chg F w3 wX∧∀ y,¬ F y)→w1.heap.size≤q→(q<W.heap.size∨w3.heap.size≤q)→Blk wX q 52 slt0.entA →
   rt+1<q∧Blk (Ac wX q ov) q 52 ov.entA∧Blk (Ac wX q ov) (rt+1) 52 slt0.entA∧∃ X',Aj k r s1 (Ac wX q ov) X'∧Chg X w (Ac wX q ov)∧(∀ y,X' y→X y∨w.heap.size≤y)∧¬ X' (rt+1)∧¬ X' q :=
  fun q W w3 wX hb hT hF hq1 hq2 hB=>Eh keepOb_ok hb0 hlt hrt (by omega) B2 hb hT hF hq1 hq2 hB ov
 replace FIN:=Lib.hid FIN
 have hYr:¬ X rt:=fun e=>by have:=hXrt _ e;omega
 have hYq:∀ q,w1.heap.size≤q→¬ X q:=fun q hq e=>by have:=hXrt _ e;omega
 replace hbk:=Lib.hid hbk
 replace hpos:=Lib.hid hpos
 clear B1 B2 hlt h1
 go_cut [10,11] from 12 to 23 (fun x10 x11 wx=>∃ q,x10=.pointer (some ⟨q,0,none⟩)∧x11=.bool oo∧rt+1<q∧Blk wx q 52 ov.entA∧Blk wx (rt+1) 52 slt0.entA∧∃ X',Aj k r s1 wx X'∧Chg X w wx∧(∀ y,X' y→X y∨w.heap.size≤y)∧¬ X' (rt+1)∧¬ X' q)
 case first =>
  as_aux_lemma =>
  refine wp_region_held_drew (S:=TupAt rt t) (by kernel_rfl) hS1 (fun hHeld=>?_)
  have hd:Below w1.heap.size w1 w1.drew:=(Below.refl _ _).drew
  have hzd:w1.drew.heap.size=w1.heap.size:=rfl
  generalize w1.drew=wd at *
  replace hzd:=Lib.hid hzd
  refine tq 0 ?_;try go_frame
  refine tq 1 ?_;try go_frame
  refine tq 2 ?_;try go_frame
  refine tq 4 ?_;try go_frame
  refine tq 5 ?_;try go_frame
  refine tq 6 ?_;try go_frame
  refine wpAnyH_ready (rs:=[3,11]) (by kernel_rfl) (by simp) ?_;refine consH rfl (fun K hK=>?_) (consH rfl (fun K hK=>?_) AllReadyH.nil)
  ·
   go_simp
   (go_at_call 103;(with_reducible refine (OF.out _ hd).mono ?_))
   rintro e w2 ⟨rfl,hb2⟩
   refine hK.out _ _ (hHeld.call hb2) (fun hHeld=>?_)
   clear hK K
   try go_frame
   refine wpAnyH_ready (rs:=[7,11]) (by kernel_rfl) (by simp) ?_;refine consH rfl (fun K hK=>?_) (consH rfl (fun K hK=>?_) AllReadyH.nil)
   ·
    go_simp
    (go_at_call 19;(with_reducible refine (OP.out _ (A8 hb2 hd)).mono ?_))
    rintro e w3 ⟨rfl,hT3⟩
    refine hK.out _ _ (hHeld.chg (AK hT3) hYr) (fun hHeld=>?_)
    clear hK K
    try go_frame
    refine tq 8 ?_;try go_frame
    refine tq 9 ?_;try go_frame
    refine tq 10 ?_;try go_frame
    refine oneH 11 fun K hK=>?_
    go_simp
    refine hK.out _ _ (hHeld.call (Aa (Below.refl _ _) _)) (fun hHeld=>?_)
    clear hK K
    try go_frame
    have hsz:=(AK hT3).size
    have hsz2:=hb2.size
    refine oneH 12 fun K hK=>?_
    rw [if_pos (by rfl)]
    have BQ:Blk (w3.alloc (.cells #[.int .i64 0,.bool false,.int .u64 0,.int .u64 0,.bool false,.int .u64 0,.int .u64 0,.int .i64 0,.int .i64 0,.int .i64 0,.int .i64 0,.int .i64 0,.int .u64 0,.int .i64 0] 52)) w3.heap.size 52 slt0.entA:=Blk.new w3 52 slt0.entA
    with_reducible refine Ae (r:=w3.heap.size) (z:=slt0) (.tmp 10) (.tmp 21) rfl BQ ov rfl rfl ?_
    refine hK.out _ _ (hHeld.chg (Ab BQ ov).2 (fun e=>by have e2:rt=w3.heap.size:=e;have h9:=hzd.out;omega)) (fun hHeld=>?_)
    clear hK K
    try go_frame
    refine tq 13 ?_;try go_frame
    refine wpAnyH_done (by kernel_rfl) ?_ _
    go_wp2_with fail
    go_meet
    exact ⟨w3.heap.size,rfl,rfl,FIN.out w3.heap.size w2 w3 _ (A8 hb2 hd) hT3 ⟨fun _=>False,Chg.of_below (Aa (Below.refl _ _) _),fun _ h=>h⟩ (by have h9:=hzd.out;omega) (.inr (Nat.le_refl _)) BQ⟩
   ·
    go_simp
    refine hK.out _ _ (hHeld.call (Aa (Below.refl _ _) _)) (fun hHeld=>?_)
    clear hK K
    try go_frame
    refine oneH 7 fun K hK=>?_
    go_simp
    (go_at_call 19;(with_reducible refine (OP.out _ (A8 (Aa (Below.refl w2.heap.size w2) (.cells #[.int .i64 0,.bool false,.int .u64 0,.int .u64 0,.bool false,.int .u64 0,.int .u64 0,.int .i64 0,.int .i64 0,.int .i64 0,.int .i64 0,.int .i64 0,.int .u64 0,.int .i64 0] 52)) (A8 hb2 hd))).mono ?_))
    rintro e w3 ⟨rfl,hT3⟩
    refine hK.out _ _ (hHeld.chg (AK hT3) hYr) (fun hHeld=>?_)
    clear hK K
    try go_frame
    refine tq 8 ?_;try go_frame
    refine tq 9 ?_;try go_frame
    refine tq 10 ?_;try go_frame
    have hsz2:=hb2.size
    have hsa:(w2.alloc (.cells #[.int .i64 0,.bool false,.int .u64 0,.int .u64 0,.bool false,.int .u64 0,.int .u64 0,.int .i64 0,.int .i64 0,.int .i64 0,.int .i64 0,.int .i64 0,.int .u64 0,.int .i64 0] 52)).heap.size=w2.heap.size+1:=World.size_alloc _ _
    refine oneH 12 fun K hK=>?_
    rw [if_pos (by rfl)]
    have BQ:Blk w3 w2.heap.size 52 slt0.entA:=(Blk.new w2 52 slt0.entA).chg (AK hT3) (hYq _ (by have h9:=hzd.out;omega))
    with_reducible refine Ae (r:=w2.heap.size) (z:=slt0) (.tmp 10) (.tmp 21) rfl BQ ov rfl rfl ?_
    refine hK.out _ _ (hHeld.chg (Ab BQ ov).2 (fun e=>by have e2:rt=w2.heap.size:=e;have h9:=hzd.out;omega)) (fun hHeld=>?_)
    clear hK K
    try go_frame
    refine tq 13 ?_;try go_frame
    refine wpAnyH_done (by kernel_rfl) ?_ _
    go_wp2_with fail
    go_meet
    exact ⟨w2.heap.size,rfl,rfl,FIN.out w2.heap.size (w2.alloc (.cells #[.int .i64 0,.bool false,.int .u64 0,.int .u64 0,.bool false,.int .u64 0,.int .u64 0,.int .i64 0,.int .i64 0,.int .i64 0,.int .i64 0,.int .i64 0,.int .u64 0,.int .i64 0] 52)) w3 _ (A8 (Aa (Below.refl w2.heap.size w2) (.cells #[.int .i64 0,.bool false,.int .u64 0,.int .u64 0,.bool false,.int .u64 0,.int .u64 0,.int .i64 0,.int .i64 0,.int .i64 0,.int .i64 0,.int .i64 0,.int .u64 0,.int .i64 0] 52)) (A8 hb2 hd)) hT3 ⟨fun _=>False,Chg.refl _ _,fun _ h=>h⟩ (by have h9:=hzd.out;omega) (.inl (by omega)) BQ⟩
  ·
   go_simp
   refine hK.out _ _ (hHeld.call (Aa (Below.refl _ _) _)) (fun hHeld=>?_)
   clear hK K
   try go_frame
   refine oneH 3 fun K hK=>?_
   go_simp
   (go_at_call 103;(with_reducible refine (OF.out _ (A8 (Aa (Below.refl wd.heap.size wd) (.cells #[.int .i64 0,.bool false,.int .u64 0,.int .u64 0,.bool false,.int .u64 0,.int .u64 0,.int .i64 0,.int .i64 0,.int .i64 0,.int .i64 0,.int .i64 0,.int .u64 0,.int .i64 0] 52)) hd)).mono ?_))
   rintro e w2 ⟨rfl,hb2⟩
   refine hK.out _ _ (hHeld.call hb2) (fun hHeld=>?_)
   clear hK K
   try go_frame
   refine oneH 7 fun K hK=>?_
   go_simp
   (go_at_call 19;(with_reducible refine (OP.out _ (A8 hb2 (A8 (Aa (Below.refl wd.heap.size wd) (.cells #[.int .i64 0,.bool false,.int .u64 0,.int .u64 0,.bool false,.int .u64 0,.int .u64 0,.int .i64 0,.int .i64 0,.int .i64 0,.int .i64 0,.int .i64 0,.int .u64 0,.int .i64 0] 52)) hd))).mono ?_))
   rintro e w3 ⟨rfl,hT3⟩
   refine hK.out _ _ (hHeld.chg (AK hT3) hYr) (fun hHeld=>?_)
   clear hK K
   try go_frame
   refine tq 8 ?_;try go_frame
   refine tq 9 ?_;try go_frame
   refine tq 10 ?_;try go_frame
   have hsz2:=hb2.size
   have hsa:(wd.alloc (.cells #[.int .i64 0,.bool false,.int .u64 0,.int .u64 0,.bool false,.int .u64 0,.int .u64 0,.int .i64 0,.int .i64 0,.int .i64 0,.int .i64 0,.int .i64 0,.int .u64 0,.int .i64 0] 52)).heap.size=wd.heap.size+1:=World.size_alloc _ _
   refine oneH 12 fun K hK=>?_
   rw [if_pos (by rfl)]
   have BQ:Blk w3 wd.heap.size 52 slt0.entA:=((Blk.new wd 52 slt0.entA).call hb2).chg (AK hT3) (hYq _ (by have h9:=hzd.out;omega))
   with_reducible refine Ae (r:=wd.heap.size) (z:=slt0) (.tmp 10) (.tmp 21) rfl BQ ov rfl rfl ?_
   refine hK.out _ _ (hHeld.chg (Ab BQ ov).2 (fun e=>by have e2:rt=wd.heap.size:=e;have h9:=hzd.out;omega)) (fun hHeld=>?_)
   clear hK K
   try go_frame
   refine tq 13 ?_;try go_frame
   refine wpAnyH_done (by kernel_rfl) ?_ _
   go_wp2_with fail
   go_meet
   exact ⟨wd.heap.size,rfl,rfl,FIN.out wd.heap.size w2 w3 _ (A8 hb2 (A8 (Aa (Below.refl wd.heap.size wd) (.cells #[.int .i64 0,.bool false,.int .u64 0,.int .u64 0,.bool false,.int .u64 0,.int .u64 0,.int .i64 0,.int .i64 0,.int .i64 0,.int .i64 0,.int .i64 0,.int .u64 0,.int .i64 0] 52)) hd)) hT3 ⟨fun _=>False,Chg.refl _ _,fun _ h=>h⟩ (by have h9:=hzd.out;omega) (.inl (by omega)) BQ⟩
 case rest =>
  as_aux_lemma =>
  obtain ⟨q,rfl,rfl,hq,BQ,BR,X',hW',hc,hn,hnr,hnq⟩:=hcut
  clear FIN OP OF hYr hYq hXrt hS1
  have c10:wc.cell? ⟨q,10,none⟩=some (.int .i64 ov.st):=BQ.cell 10
  have c9:wc.cell? ⟨q,9,none⟩=some (.int .i64 ov.bk):=BQ.cell 9
  replace hn:=Lib.hid hn
  replace hnr:=Lib.hid hnr
  replace hnq:=Lib.hid hnq
  by_cases h0:(oo && ov.st==4)=true
  ·
   obtain ⟨e1,e2⟩:oo=true∧ov.st=4:=by simpa using h0
   subst e1
   rw [e2] at c10
   replace e2:=Lib.hid e2
   have hbw:=hbk.out h0
   replace h0:=Lib.hid h0
   have hGo:=Lib.hid fun (W:World) (hbW:Below wc.heap.size wc W) (A:Option Addr) (d:Nat) (hR:Reads W W.heap.size 14 A [ov].length ([ov].flatMap Slt.ent)) (hA:∀ ad,A=some ad→wc.heap.size≤ad.block)=>Oc (keepOb_ok.call hW' hbW) ov A d hR (fun ad e y=>by have:=hA ad e;have:=keepOb_ok.lt hW' y;omega) hbw hpos.out (by omega)
   replace BQ:=Lib.hid BQ
   replace BR:=Lib.hid BR
   replace hW':=Lib.hid hW'
   replace hc:=Lib.hid hc
   clear c9
   go_upto_region 3 with fail
   have BQc:=BQ.out
   go_upto_region 4 with (first
    | (with_reducible refine AC rfl (.tmp 10) rfl q rfl ov BQc ?_)
    | (with_reducible refine GU rfl (.tmp 30) rfl ov rfl ?_)
    | (go_at_call 106;(with_reducible refine (hGo.out _ (Aa (Below.refl _ _) _) _ _ (Jp _ _ 14 1 52 ov.ent rfl (by rw [World.size_alloc];omega)) (fun ad e=>by injection e with e;subst e;exact Nat.le_refl _)).mono ?_);rintro e w4 ⟨rfl,hT4⟩))
   replace hT4:=Ob.To.below (Aa (Below.refl _ _) _) hT4
   obtain ⟨X2,hW2,hc2,hn2⟩:=hT4
   have hz4:=hc2.size
   have BQ4:=BQ.out.chg hc2 hnq.out
   have BR4:=BR.out.chg hc2 hnr.out
   have hlq:=BQ.out.lt
   have hlr:=BR.out.lt
   have hX2r:¬ X2 (rt+1):=fun e=>by
    rcases hn2 _ e with e | e
    · exact hnr.out e
    · omega
   replace hW2:=Lib.hid hW2
   replace hc2:=Lib.hid hc2
   replace hn2:=Lib.hid hn2
   have hT4:=Lib.hid fun (wz:World) (hk:Chg (·=rt+1) w4 wz)=>show (Aj k r { s1 with M:=lmAdd s1.M ov.bk (-1) }).To w wz X from
    ⟨X2,keepOb_ok.chg hW2.out hk (fun y hy e=>hX2r (by have e3:y=rt+1:=e;exact e3 ▸ hy)),(hc.out.trans hc2.out (fun y hy e=>by rcases hn.out y e with h | h <;> first | exact h | omega)).trans hk (fun y hy e=>by have e3:y=rt+1:=e;omega),fun y hy=>by
     rcases hn2.out y hy with e | e
     · exact hn.out y e
     · exact .inr (by have:=hc.out.size;omega)⟩
   clear hX2r hn2 hc2 hW2 hW' hc hn hnr hnq BQ BR
   go_wp2_with (first
    | (with_reducible refine AC rfl (.tmp 10) rfl q rfl ov BQ4 ?_)
    | (with_reducible refine Ao (r:=rt+1) (z:=slt0) rfl rfl (.tmp 8) (.tmp 33) rfl BR4 ov rfl rfl ?_))
   obtain ⟨e1,e2⟩:=Ab BR4 ov
   change bodyPost _ _ _ _ _ (Ac w4 (rt+1) ov)
   generalize Ac w4 (rt+1) ov=w6 at *
   have hE6:=EntAt.of e1
   refine bodyPost_ret (v:=.tuple #[ov.val,.bool true]) (Ch _ _ _ _ _ rfl rfl hE6) rfl ?_
   exact ⟨rfl,by first | exact hT4.out _ e2 | (rw [if_pos h0.out];exact hT4.out _ e2)⟩
  ·
   have hcz:(oo=true→(ov.st==4)=false):=fun e=>by
    subst e
    cases e2:ov.st==4
    · rfl
    · exact absurd (by rw [e2];rfl) h0
   replace h0:=Lib.hid h0
   have hT4:=Lib.hid fun (wz:World) (hk:Chg (·=rt+1) wc wz)=>show (Aj k r s1).To w wz X from
    ⟨X',keepOb_ok.chg hW' hk (fun y hy e=>hnr.out (by have e3:y=rt+1:=e;exact e3 ▸ hy)),hc.trans hk (fun y hy e=>by have e3:y=rt+1:=e;omega),hn.out⟩
   clear hW' hc hn hnr hnq c9
   cases oo
   ·
    clear hcz c10
    go_wp2_with (first
     | (with_reducible refine AC rfl (.tmp 10) rfl q rfl ov BQ ?_)
     | (with_reducible refine Ao (r:=rt+1) (z:=slt0) rfl rfl (.tmp 8) (.tmp 33) rfl BR ov rfl rfl ?_))
    obtain ⟨e1,e2⟩:=Ab BR ov
    change bodyPost _ _ _ _ _ (Ac wc (rt+1) ov)
    generalize Ac wc (rt+1) ov=w6 at *
    have hE6:=EntAt.of e1
    refine bodyPost_ret (v:=.tuple #[ov.val,.bool false]) (Ch _ _ _ _ _ rfl rfl hE6) rfl ?_
    exact ⟨rfl,by first | exact hT4.out _ e2 | (rw [if_neg h0.out];exact hT4.out _ e2)⟩
   ·
    replace hcz:=hcz rfl
    go_wp2_with (first
     | (with_reducible refine AC rfl (.tmp 10) rfl q rfl ov BQ ?_)
     | (with_reducible refine Ao (r:=rt+1) (z:=slt0) rfl rfl (.tmp 8) (.tmp 33) rfl BR ov rfl rfl ?_))
    obtain ⟨e1,e2⟩:=Ab BR ov
    change bodyPost _ _ _ _ _ (Ac wc (rt+1) ov)
    generalize Ac wc (rt+1) ov=w6 at *
    have hE6:=EntAt.of e1
    refine bodyPost_ret (v:=.tuple #[ov.val,.bool true]) (Ch _ _ _ _ _ rfl rfl hE6) rfl ?_
    exact ⟨rfl,by first | exact hT4.out _ e2 | (rw [if_neg h0.out];exact hT4.out _ e2)⟩
theorem DV (F:Array Value) (q:Nat) (x:Slt) (o:Bool) (W:World) (h6:F[6]?=some (.pointer (some ⟨q,0,none⟩))) (h7:F[7]?=some (.bool o)) (hE:EntAt q x W):Sem.run Tryz.prog (results Tryz.f46 F) W=.ok (.tuple #[x.val,.bool o]) W:=by
 obtain ⟨r0,r1,r2,r3,r4,r5,r6,r7,r8,r9,r10,r11,r12,r13⟩:=hE
 simp [results,Tryz.results46,go_sem,h6,h7,r0,r1,r2,r3,r4,r5,r6,r7,r8,r9,r10,r11,r12,r13]
set_option maxRecDepth 100000 in
set_option maxHeartbeats 8000000 in
theorem K0 (hI:KI r s) (h:Aj k r s w X) (t:Tup) (n:Nat) (hn64:n<18446744073709551616) :
  Calls Tryz.prog 46 #[ptr0 k.g,t.val,.int .u64 (n:Int)] w fun e w'=>e=.returned (.tuple #[(H0 r s t n).val,.bool (FO r s t n)])∧(Aj k r (kFind r s t n)).To w w' X:=by
 have hlt:=fun y (hy:X y)=>keepOb_ok.lt h hy
 obtain ⟨b,hb⟩:∃ b,isT t=b:=⟨_,rfl⟩
 have hbp:(t.p==6)=b:=hb
 obtain ⟨hnp,hp1,hp16⟩:=C4 hI.ok
 have hti:=hI.lk b
 have hR:(r.rb b).cfg.right:=DB (Bf hI.ok b)
 obtain ⟨s1,hs1⟩:∃ s1:KSt,kFind r s t n=s1:=⟨_,rfl⟩
 have B1:=(Blk.new w 47 t.cells.toArray).alloc (.cells #[.int .i64 0,.bool false,.int .u64 0,.int .u64 0,.bool false,.int .u64 0,.int .u64 0,.int .i64 0,.int .i64 0,.int .i64 0,.int .i64 0,.int .i64 0,.int .u64 0,.int .i64 0] 52)
 have B2:Blk ((w.alloc (.cells t.cells.toArray 47)).alloc (.cells #[.int .i64 0,.bool false,.int .u64 0,.int .u64 0,.bool false,.int .u64 0,.int .u64 0,.int .i64 0,.int .i64 0,.int .i64 0,.int .i64 0,.int .i64 0,.int .u64 0,.int .i64 0] 52)) (w.alloc (.cells t.cells.toArray 47)).heap.size 52 slt0.entA:=Blk.new (w.alloc (.cells t.cells.toArray 47)) 52 slt0.entA
 have hb0:Below w.heap.size w ((w.alloc (.cells t.cells.toArray 47)).alloc (.cells #[.int .i64 0,.bool false,.int .u64 0,.int .u64 0,.bool false,.int .u64 0,.int .u64 0,.int .i64 0,.int .i64 0,.int .i64 0,.int .i64 0,.int .i64 0,.int .u64 0,.int .i64 0] 52)):=Aa (Aa (Below.refl _ _) _) _
 rw [World.size_alloc] at B2
 have h1:=keepOb_ok.call h hb0
 have OP0:=fun (W:World) (hbW:Below ((w.alloc (.cells t.cells.toArray 47)).alloc (.cells #[.int .i64 0,.bool false,.int .u64 0,.int .u64 0,.bool false,.int .u64 0,.int .u64 0,.int .i64 0,.int .i64 0,.int .i64 0,.int .i64 0,.int .i64 0,.int .u64 0,.int .i64 0] 52)).heap.size ((w.alloc (.cells t.cells.toArray 47)).alloc (.cells #[.int .i64 0,.bool false,.int .u64 0,.int .u64 0,.bool false,.int .u64 0,.int .u64 0,.int .i64 0,.int .i64 0,.int .i64 0,.int .i64 0,.int .i64 0,.int .u64 0,.int .i64 0] 52)) W)=>show Calls Tryz.prog 17 #[ptr0 (k.gb b),t.val,.int .u64 (n:Int)] W fun e w'=>e=.returned (.tuple #[(H0 r s t n).val,.bool (FO r s t n)])∧(Aj k r s1).To W w' X from by
  obtain ⟨X1,k1,-,k2⟩:=Ef b (keepOb_ok.call h1 hbW)
  rw [← hs1]
  subst hb
  refine (JS k1 t n hn64).mono ?_
  rintro e w' ⟨rfl,hT⟩
  exact ⟨rfl,k2 _ _ hT⟩
 rw [hs1]
 obtain ⟨ov,hov⟩:∃ v,H0 r s t n=v:=⟨_,rfl⟩
 obtain ⟨oo,hoo⟩:∃ v,FO r s t n=v:=⟨_,rfl⟩
 rw [hov,hoo] at OP0
 rw [hov,hoo]
 clear hov hoo hs1 hti hR h hnp hp1 hp16 hI
 go_enter Tryz.func46,Tryz.ntmps46
 go_upto_region 1 with fail
 change Code.wp _ _ _ _ ((w.alloc (.cells t.cells.toArray 47)).alloc (.cells #[.int .i64 0,.bool false,.int .u64 0,.int .u64 0,.bool false,.int .u64 0,.int .u64 0,.int .i64 0,.int .i64 0,.int .i64 0,.int .i64 0,.int .i64 0,.int .u64 0,.int .i64 0] 52))
 have hw1:((w.alloc (.cells t.cells.toArray 47)).alloc (.cells #[.int .i64 0,.bool false,.int .u64 0,.int .u64 0,.bool false,.int .u64 0,.int .u64 0,.int .i64 0,.int .i64 0,.int .i64 0,.int .i64 0,.int .i64 0,.int .u64 0,.int .i64 0] 52)).heap.size=w.heap.size+2:=by rw [World.size_alloc,World.size_alloc]
 generalize (w.alloc (.cells t.cells.toArray 47)).alloc (.cells #[.int .i64 0,.bool false,.int .u64 0,.int .u64 0,.bool false,.int .u64 0,.int .u64 0,.int .i64 0,.int .i64 0,.int .i64 0,.int .i64 0,.int .i64 0,.int .u64 0,.int .i64 0] 52)=w1 at *
 obtain ⟨rt,hrt⟩:∃ rt,w.heap.size=rt:=⟨_,rfl⟩
 rw [hrt] at B1 B2 hw1
 try rw [hrt]
 have hXrt:∀ y,X y→y<rt:=fun y hy=>by have:=hlt y hy;omega
 have OF:=Lib.hid fun (W:World) (hbW:Below w1.heap.size w1 W)=>show Calls Tryz.prog 103 #[ptr0 k.g,.int .i64 t.p] W fun e w'=>e=.returned (ptr0 (k.gb b))∧Below W.heap.size W w' from by
  have:=HI (keepOb_ok.call h1 hbW) t.p
  rwa [hbp] at this
 have OP:=Lib.hid OP0
 clear OP0
 have hS1:TupAt rt t w1.drew:=TupAt.of B1
 have hYr:¬ X rt:=fun e=>by have:=hXrt _ e;omega
 have hYq:¬ X (rt+1):=fun e=>by have:=hXrt _ e;omega
 replace B2:=Lib.hid B2
 replace h1:=Lib.hid h1
 refine wp_region_held_drew (S:=TupAt rt t) (by kernel_rfl) hS1 (fun hHeld=>?_)
 have hd:Below w1.heap.size w1 w1.drew:=(Below.refl _ _).drew
 generalize w1.drew=wd at *
 refine tq 0 ?_;try go_frame
 refine tq 1 ?_;try go_frame
 refine tq 2 ?_;try go_frame
 refine tq 4 ?_;try go_frame
 refine tq 5 ?_;try go_frame
 refine oneH 3 fun K hK=>?_
 go_simp
 (go_at_call 103;(with_reducible refine (OF.out _ hd).mono ?_))
 rintro e w2 ⟨rfl,hb2⟩
 refine hK.out _ _ (hHeld.call hb2) (fun hHeld=>?_)
 clear hK K
 try go_frame
 refine oneH 6 fun K hK=>?_
 go_simp
 (go_at_call 17;(with_reducible refine (OP.out _ (A8 hb2 hd)).mono ?_))
 rintro e w3 ⟨rfl,hT3⟩
 refine hK.out _ _ (hHeld.chg (AK hT3) hYr) (fun hHeld=>?_)
 clear hK K
 try go_frame
 refine tq 7 ?_;try go_frame
 refine tq 8 ?_;try go_frame
 refine oneH 9 fun K hK=>?_
 rw [if_pos (by rfl)]
 have BR:Blk w3 (rt+1) 52 slt0.entA:=(B2.out.call (A8 hb2 hd)).chg (AK hT3) hYq
 with_reducible refine Ae (r:=rt+1) (z:=slt0) (.tmp 6) (.tmp 15) rfl BR ov rfl rfl ?_
 obtain ⟨e1,e2⟩:=Ab BR ov
 generalize Ac w3 (rt+1) ov=w6 at *
 refine hK.out _ _ (hHeld.chg e2 (fun e=>by have e3:rt=rt+1:=e;omega)) (fun hHeld=>?_)
 clear hK K
 try go_frame
 refine tq 10 ?_;try go_frame
 refine wpAnyH_done (by kernel_rfl) ?_ _
 clear hHeld
 have hsz:w1.heap.size≤w2.heap.size:=(A8 hb2 hd).size
 have hTo:(Aj k r s1).To w w6 X:=by
  obtain ⟨X2,k1,k2,k3⟩:=hT3
  have hX2:¬ X2 (rt+1):=fun e=>by
   rcases k3 _ e with e | e
   · exact hYq e
   · omega
  have k2:Chg X w w3:=(Chg.of_below (F:=X) (A8 (A8 hb2 hd) hb0)).trans k2 (fun _ _ h=>h)
  have k3:∀ y,X2 y→X y∨w.heap.size≤y:=fun y hy=>(k3 y hy).imp id fun e=>by have:=hb0.size;omega
  exact ⟨X2,keepOb_ok.chg k1 e2 (fun y hy e=>hX2 (by have e3:y=rt+1:=e;exact e3 ▸ hy)),k2.trans e2 (fun y hy e=>by have e3:y=rt+1:=e;omega),k3⟩
 replace hTo:=Lib.hid hTo
 have hE6:=EntAt.of e1
 clear hT3 BR e2
 go_wp2_with fail
 refine bodyPost_ret (v:=.tuple #[ov.val,.bool oo]) (DV _ _ _ _ _ rfl rfl hE6) rfl ?_
 exact ⟨rfl,hTo.out⟩
end
theorem QE {w w':World} {X:Nat→Prop} (h:Ob.emp.To w w' X) (hX:∀ y,¬ X y):Below w.heap.size w w':=by
 obtain ⟨X',-,h2,-⟩:=h
 exact h2.below (fun y _ e=>hX y e) (Nat.le_refl _)
section
variable {w:World} {v:Value}
set_option maxRecDepth 100000 in
set_option maxHeartbeats 8000000 in
theorem RU (h:KNo v w) (t:Tup) (bk fl:Int):Calls Tryz.prog 42 #[v,t.val,.int .i64 bk,.int .i64 fl] w fun e w'=>e=.returned (.tuple #[slt0.val,.int .u64 0,.int .i64 1])∧Below w.heap.size w w':=by
 have B1:=(Blk.new w 47 t.cells.toArray).alloc (.cells #[.int .i64 0,.bool false,.int .u64 0,.int .u64 0,.bool false,.int .u64 0,.int .u64 0,.int .i64 0,.int .i64 0,.int .i64 0,.int .i64 0,.int .i64 0,.int .u64 0,.int .i64 0] 52)
 have B2:Blk ((w.alloc (.cells t.cells.toArray 47)).alloc (.cells #[.int .i64 0,.bool false,.int .u64 0,.int .u64 0,.bool false,.int .u64 0,.int .u64 0,.int .i64 0,.int .i64 0,.int .i64 0,.int .i64 0,.int .i64 0,.int .u64 0,.int .i64 0] 52)) (w.alloc (.cells t.cells.toArray 47)).heap.size 52 slt0.entA:=Blk.new (w.alloc (.cells t.cells.toArray 47)) 52 slt0.entA
 have hb0:Below w.heap.size w ((w.alloc (.cells t.cells.toArray 47)).alloc (.cells #[.int .i64 0,.bool false,.int .u64 0,.int .u64 0,.bool false,.int .u64 0,.int .u64 0,.int .i64 0,.int .i64 0,.int .i64 0,.int .i64 0,.int .i64 0,.int .u64 0,.int .i64 0] 52)):=Aa (Aa (Below.refl _ _) _) _
 rw [World.size_alloc] at B2
 obtain ⟨X,hX⟩:∃ X:Nat→Prop,∀ y,¬ X y:=⟨fun _=>False,fun _ h=>h⟩
 have hlt:=fun y (hy:X y)=>show y<w.heap.size from absurd hy (hX y)
 have OF0:=fun (W:World) (hbW:Below ((w.alloc (.cells t.cells.toArray 47)).alloc (.cells #[.int .i64 0,.bool false,.int .u64 0,.int .u64 0,.bool false,.int .u64 0,.int .u64 0,.int .i64 0,.int .i64 0,.int .i64 0,.int .i64 0,.int .i64 0,.int .u64 0,.int .i64 0] 52)).heap.size ((w.alloc (.cells t.cells.toArray 47)).alloc (.cells #[.int .i64 0,.bool false,.int .u64 0,.int .u64 0,.bool false,.int .u64 0,.int .u64 0,.int .i64 0,.int .i64 0,.int .i64 0,.int .i64 0,.int .i64 0,.int .u64 0,.int .i64 0] 52)) W)=>KZ (h.call (A8 hbW hb0)) t.p
 have OP0:=fun (W:World)=>show Calls Tryz.prog 15 #[.pointer none,t.val,.int .i64 bk,.int .i64 fl] W fun e w'=>e=.returned (.tuple #[slt0.val,.int .u64 0,.int .i64 1])∧Ob.emp.To W w' X from by
  refine (Jh t bk fl W).mono ?_
  rintro e w' ⟨rfl,hb⟩
  exact ⟨rfl,Ob.To.ofBelow Ob.emp_ok hX hb⟩
 obtain ⟨ov,hov⟩:∃ x,slt0=x:=⟨_,rfl⟩
 have hov2:slt0.val=ov.val:=by rw [hov]
 have OP1:=fun (W:World)=>show Calls Tryz.prog 15 #[.pointer none,t.val,.int .i64 bk,.int .i64 fl] W fun e w'=>e=.returned (.tuple #[ov.val,.int .u64 0,.int .i64 1])∧Ob.emp.To W w' X from by rw [← hov2];exact OP0 W
 have hgoal:∀ w',(Ob.emp.To w w' X→Below w.heap.size w w'):=fun w' t=>QE t hX
 rw [hov2]
 clear h hov hov2 OP0
 go_enter Tryz.func42,Tryz.ntmps42
 go_upto_region 1 with fail
 change Code.wp _ _ _ _ ((w.alloc (.cells t.cells.toArray 47)).alloc (.cells #[.int .i64 0,.bool false,.int .u64 0,.int .u64 0,.bool false,.int .u64 0,.int .u64 0,.int .i64 0,.int .i64 0,.int .i64 0,.int .i64 0,.int .i64 0,.int .u64 0,.int .i64 0] 52))
 have hw1:((w.alloc (.cells t.cells.toArray 47)).alloc (.cells #[.int .i64 0,.bool false,.int .u64 0,.int .u64 0,.bool false,.int .u64 0,.int .u64 0,.int .i64 0,.int .i64 0,.int .i64 0,.int .i64 0,.int .i64 0,.int .u64 0,.int .i64 0] 52)).heap.size=w.heap.size+2:=by rw [World.size_alloc,World.size_alloc]
 generalize (w.alloc (.cells t.cells.toArray 47)).alloc (.cells #[.int .i64 0,.bool false,.int .u64 0,.int .u64 0,.bool false,.int .u64 0,.int .u64 0,.int .i64 0,.int .i64 0,.int .i64 0,.int .i64 0,.int .i64 0,.int .u64 0,.int .i64 0] 52)=w1 at *
 obtain ⟨rt,hrt⟩:∃ rt,w.heap.size=rt:=⟨_,rfl⟩
 rw [hrt] at B1 B2 hw1
 try rw [hrt]
 have hXrt:∀ y,X y→y<rt:=fun y hy=>by have:=hlt y hy;omega
 have OF:=Lib.hid OF0
 have OP:=Lib.hid fun (W:World) (_:Below w1.heap.size w1 W)=>OP1 W
 clear OF0 OP1
 have hS1:TupAt rt t w1.drew:=TupAt.of B1
 have FIN:∀ (q:Nat) (W w3 wX:World),Below w1.heap.size w1 W→Ob.emp.To W w3 X→(∃ F:Nat→Prop,Chg F w3 wX∧∀ y,¬ F y)→w1.heap.size≤q→(q<W.heap.size∨w3.heap.size≤q)→Blk wX q 52 slt0.entA →
   rt+1<q∧Blk (Ac wX q ov) q 52 ov.entA∧Blk (Ac wX q ov) (rt+1) 52 slt0.entA∧∃ X',Ob.emp (Ac wX q ov) X'∧Chg X w (Ac wX q ov)∧(∀ y,X' y→X y∨w.heap.size≤y)∧¬ X' (rt+1)∧¬ X' q :=
  fun q W w3 wX hb hT hF hq1 hq2 hB=>Eh Ob.emp_ok hb0 hlt hrt (by omega) B2 hb hT hF hq1 hq2 hB ov
 replace FIN:=Lib.hid FIN
 have hYr:¬ X rt:=fun e=>by have:=hXrt _ e;omega
 have hYq:∀ q,w1.heap.size≤q→¬ X q:=fun q hq e=>by have:=hXrt _ e;omega
 replace hgoal:=Lib.hid hgoal
 clear B1 B2 hlt
 go_cut [11,12,13] from 14 to 26 (fun x11 x12 x13 wx=>∃ q,x11=.pointer (some ⟨q,0,none⟩)∧(x12=.int .u64 0∧x13=.int .i64 1)∧rt+1<q∧Blk wx q 52 ov.entA∧Blk wx (rt+1) 52 slt0.entA∧∃ X',Ob.emp wx X'∧Chg X w wx∧(∀ y,X' y→X y∨w.heap.size≤y)∧¬ X' (rt+1)∧¬ X' q)
 case first =>
  as_aux_lemma =>
  refine wp_region_held_drew (S:=TupAt rt t) (by kernel_rfl) hS1 (fun hHeld=>?_)
  have hd:Below w1.heap.size w1 w1.drew:=(Below.refl _ _).drew
  have hzd:w1.drew.heap.size=w1.heap.size:=rfl
  generalize w1.drew=wd at *
  replace hzd:=Lib.hid hzd
  refine tq 0 ?_;try go_frame
  refine tq 1 ?_;try go_frame
  refine tq 2 ?_;try go_frame
  refine tq 4 ?_;try go_frame
  refine tq 5 ?_;try go_frame
  refine tq 6 ?_;try go_frame
  refine wpAnyH_ready (rs:=[3,12]) (by kernel_rfl) (by simp) ?_;refine consH rfl (fun K hK=>?_) (consH rfl (fun K hK=>?_) AllReadyH.nil)
  ·
   go_simp
   (go_at_call 103;(with_reducible refine (OF.out _ hd).mono ?_))
   rintro e w2 ⟨rfl,hb2⟩
   refine hK.out _ _ (hHeld.call hb2) (fun hHeld=>?_)
   clear hK K
   try go_frame
   refine wpAnyH_ready (rs:=[7,12]) (by kernel_rfl) (by simp) ?_;refine consH rfl (fun K hK=>?_) (consH rfl (fun K hK=>?_) AllReadyH.nil)
   ·
    go_simp
    (go_at_call 15;(with_reducible refine (OP.out _ (A8 hb2 hd)).mono ?_))
    rintro e w3 ⟨rfl,hT3⟩
    refine hK.out _ _ (hHeld.chg (AK hT3) hYr) (fun hHeld=>?_)
    clear hK K
    try go_frame
    refine tq 8 ?_;try go_frame
    refine tq 9 ?_;try go_frame
    refine tq 10 ?_;try go_frame
    refine tq 11 ?_;try go_frame
    refine oneH 12 fun K hK=>?_
    go_simp
    refine hK.out _ _ (hHeld.call (Aa (Below.refl _ _) _)) (fun hHeld=>?_)
    clear hK K
    try go_frame
    have hsz:=(AK hT3).size
    have hsz2:=hb2.size
    refine oneH 13 fun K hK=>?_
    rw [if_pos (by rfl)]
    have BQ:Blk (w3.alloc (.cells #[.int .i64 0,.bool false,.int .u64 0,.int .u64 0,.bool false,.int .u64 0,.int .u64 0,.int .i64 0,.int .i64 0,.int .i64 0,.int .i64 0,.int .i64 0,.int .u64 0,.int .i64 0] 52)) w3.heap.size 52 slt0.entA:=Blk.new w3 52 slt0.entA
    with_reducible refine Ae (r:=w3.heap.size) (z:=slt0) (.tmp 11) (.tmp 23) rfl BQ ov rfl rfl ?_
    refine hK.out _ _ (hHeld.chg (Ab BQ ov).2 (fun e=>by have e2:rt=w3.heap.size:=e;have h9:=hzd.out;omega)) (fun hHeld=>?_)
    clear hK K
    try go_frame
    refine tq 14 ?_;try go_frame
    refine tq 15 ?_;try go_frame
    refine wpAnyH_done (by kernel_rfl) ?_ _
    go_wp2_with fail
    go_meet
    exact ⟨w3.heap.size,rfl,⟨rfl,rfl⟩,FIN.out w3.heap.size w2 w3 _ (A8 hb2 hd) hT3 ⟨fun _=>False,Chg.of_below (Aa (Below.refl _ _) _),fun _ h=>h⟩ (by have h9:=hzd.out;omega) (.inr (Nat.le_refl _)) BQ⟩
   ·
    go_simp
    refine hK.out _ _ (hHeld.call (Aa (Below.refl _ _) _)) (fun hHeld=>?_)
    clear hK K
    try go_frame
    refine oneH 7 fun K hK=>?_
    go_simp
    (go_at_call 15;(with_reducible refine (OP.out _ (A8 (Aa (Below.refl w2.heap.size w2) (.cells #[.int .i64 0,.bool false,.int .u64 0,.int .u64 0,.bool false,.int .u64 0,.int .u64 0,.int .i64 0,.int .i64 0,.int .i64 0,.int .i64 0,.int .i64 0,.int .u64 0,.int .i64 0] 52)) (A8 hb2 hd))).mono ?_))
    rintro e w3 ⟨rfl,hT3⟩
    refine hK.out _ _ (hHeld.chg (AK hT3) hYr) (fun hHeld=>?_)
    clear hK K
    try go_frame
    refine tq 8 ?_;try go_frame
    refine tq 9 ?_;try go_frame
    refine tq 10 ?_;try go_frame
    refine tq 11 ?_;try go_frame
    have hsz2:=hb2.size
    have hsa:(w2.alloc (.cells #[.int .i64 0,.bool false,.int .u64 0,.int .u64 0,.bool false,.int .u64 0,.int .u64 0,.int .i64 0,.int .i64 0,.int .i64 0,.int .i64 0,.int .i64 0,.int .u64 0,.int .i64 0] 52)).heap.size=w2.heap.size+1:=World.size_alloc _ _
    refine oneH 13 fun K hK=>?_
    rw [if_pos (by rfl)]
    have BQ:Blk w3 w2.heap.size 52 slt0.entA:=(Blk.new w2 52 slt0.entA).chg (AK hT3) (hYq _ (by have h9:=hzd.out;omega))
    with_reducible refine Ae (r:=w2.heap.size) (z:=slt0) (.tmp 11) (.tmp 23) rfl BQ ov rfl rfl ?_
    refine hK.out _ _ (hHeld.chg (Ab BQ ov).2 (fun e=>by have e2:rt=w2.heap.size:=e;have h9:=hzd.out;omega)) (fun hHeld=>?_)
    clear hK K
    try go_frame
    refine tq 14 ?_;try go_frame
    refine tq 15 ?_;try go_frame
    refine wpAnyH_done (by kernel_rfl) ?_ _
    go_wp2_with fail
    go_meet
    exact ⟨w2.heap.size,rfl,⟨rfl,rfl⟩,FIN.out w2.heap.size (w2.alloc (.cells #[.int .i64 0,.bool false,.int .u64 0,.int .u64 0,.bool false,.int .u64 0,.int .u64 0,.int .i64 0,.int .i64 0,.int .i64 0,.int .i64 0,.int .i64 0,.int .u64 0,.int .i64 0] 52)) w3 _ (A8 (Aa (Below.refl w2.heap.size w2) (.cells #[.int .i64 0,.bool false,.int .u64 0,.int .u64 0,.bool false,.int .u64 0,.int .u64 0,.int .i64 0,.int .i64 0,.int .i64 0,.int .i64 0,.int .i64 0,.int .u64 0,.int .i64 0] 52)) (A8 hb2 hd)) hT3 ⟨fun _=>False,Chg.refl _ _,fun _ h=>h⟩ (by have h9:=hzd.out;omega) (.inl (by omega)) BQ⟩
  ·
   go_simp
   refine hK.out _ _ (hHeld.call (Aa (Below.refl _ _) _)) (fun hHeld=>?_)
   clear hK K
   try go_frame
   refine oneH 3 fun K hK=>?_
   go_simp
   (go_at_call 103;(with_reducible refine (OF.out _ (A8 (Aa (Below.refl wd.heap.size wd) (.cells #[.int .i64 0,.bool false,.int .u64 0,.int .u64 0,.bool false,.int .u64 0,.int .u64 0,.int .i64 0,.int .i64 0,.int .i64 0,.int .i64 0,.int .i64 0,.int .u64 0,.int .i64 0] 52)) hd)).mono ?_))
   rintro e w2 ⟨rfl,hb2⟩
   refine hK.out _ _ (hHeld.call hb2) (fun hHeld=>?_)
   clear hK K
   try go_frame
   refine oneH 7 fun K hK=>?_
   go_simp
   (go_at_call 15;(with_reducible refine (OP.out _ (A8 hb2 (A8 (Aa (Below.refl wd.heap.size wd) (.cells #[.int .i64 0,.bool false,.int .u64 0,.int .u64 0,.bool false,.int .u64 0,.int .u64 0,.int .i64 0,.int .i64 0,.int .i64 0,.int .i64 0,.int .i64 0,.int .u64 0,.int .i64 0] 52)) hd))).mono ?_))
   rintro e w3 ⟨rfl,hT3⟩
   refine hK.out _ _ (hHeld.chg (AK hT3) hYr) (fun hHeld=>?_)
   clear hK K
   try go_frame
   refine tq 8 ?_;try go_frame
   refine tq 9 ?_;try go_frame
   refine tq 10 ?_;try go_frame
   refine tq 11 ?_;try go_frame
   have hsz2:=hb2.size
   have hsa:(wd.alloc (.cells #[.int .i64 0,.bool false,.int .u64 0,.int .u64 0,.bool false,.int .u64 0,.int .u64 0,.int .i64 0,.int .i64 0,.int .i64 0,.int .i64 0,.int .i64 0,.int .u64 0,.int .i64 0] 52)).heap.size=wd.heap.size+1:=World.size_alloc _ _
   refine oneH 13 fun K hK=>?_
   rw [if_pos (by rfl)]
   have BQ:Blk w3 wd.heap.size 52 slt0.entA:=((Blk.new wd 52 slt0.entA).call hb2).chg (AK hT3) (hYq _ (by have h9:=hzd.out;omega))
   with_reducible refine Ae (r:=wd.heap.size) (z:=slt0) (.tmp 11) (.tmp 23) rfl BQ ov rfl rfl ?_
   refine hK.out _ _ (hHeld.chg (Ab BQ ov).2 (fun e=>by have e2:rt=wd.heap.size:=e;have h9:=hzd.out;omega)) (fun hHeld=>?_)
   clear hK K
   try go_frame
   refine tq 14 ?_;try go_frame
   refine tq 15 ?_;try go_frame
   refine wpAnyH_done (by kernel_rfl) ?_ _
   go_wp2_with fail
   go_meet
   exact ⟨wd.heap.size,rfl,⟨rfl,rfl⟩,FIN.out wd.heap.size w2 w3 _ (A8 hb2 (A8 (Aa (Below.refl wd.heap.size wd) (.cells #[.int .i64 0,.bool false,.int .u64 0,.int .u64 0,.bool false,.int .u64 0,.int .u64 0,.int .i64 0,.int .i64 0,.int .i64 0,.int .i64 0,.int .i64 0,.int .u64 0,.int .i64 0] 52)) hd)) hT3 ⟨fun _=>False,Chg.refl _ _,fun _ h=>h⟩ (by have h9:=hzd.out;omega) (.inl (by omega)) BQ⟩
 case rest =>
  as_aux_lemma =>
  obtain ⟨q,rfl,⟨rfl,rfl⟩,hq,BQ,BR,X',hW',hc,hn,hnr,hnq⟩:=hcut
  clear FIN OP OF hYr hYq hXrt hS1
  have hT4:=Lib.hid fun (wz:World) (hk:Chg (·=rt+1) wc wz)=>show Ob.emp.To w wz X from
   ⟨X',Ob.emp_ok.chg hW' hk (fun y hy e=>hnr (by have e3:y=rt+1:=e;exact e3 ▸ hy)),hc.trans hk (fun y hy e=>by have e3:y=rt+1:=e;omega),hn⟩
  clear hW' hc hn hnr hnq
  go_wp2_with (first
   | (with_reducible refine AC rfl (.tmp 11) rfl q rfl ov BQ ?_)
   | (with_reducible refine Ao (r:=rt+1) (z:=slt0) rfl rfl (.tmp 8) (.tmp 34) rfl BR ov rfl rfl ?_))
  obtain ⟨e1,e2⟩:=Ab BR ov
  change bodyPost _ _ _ _ _ (Ac wc (rt+1) ov)
  generalize Ac wc (rt+1) ov=w6 at *
  have hE6:=EntAt.of e1
  refine bodyPost_ret (v:=.tuple #[ov.val,.int .u64 0,.int .i64 1]) (Cy _ _ _ _ _ _ rfl rfl rfl hE6) rfl ?_
  exact ⟨rfl,hgoal.out _ (hT4.out _ e2)⟩
set_option maxRecDepth 100000 in
set_option maxHeartbeats 8000000 in
theorem RV (h:KNo v w) (t:Tup) (n:Int):Calls Tryz.prog 46 #[v,t.val,.int .u64 n] w fun e w'=>e=.returned (.tuple #[slt0.val,.bool false])∧Below w.heap.size w w':=by
 have B1:=(Blk.new w 47 t.cells.toArray).alloc (.cells #[.int .i64 0,.bool false,.int .u64 0,.int .u64 0,.bool false,.int .u64 0,.int .u64 0,.int .i64 0,.int .i64 0,.int .i64 0,.int .i64 0,.int .i64 0,.int .u64 0,.int .i64 0] 52)
 have B2:Blk ((w.alloc (.cells t.cells.toArray 47)).alloc (.cells #[.int .i64 0,.bool false,.int .u64 0,.int .u64 0,.bool false,.int .u64 0,.int .u64 0,.int .i64 0,.int .i64 0,.int .i64 0,.int .i64 0,.int .i64 0,.int .u64 0,.int .i64 0] 52)) (w.alloc (.cells t.cells.toArray 47)).heap.size 52 slt0.entA:=Blk.new (w.alloc (.cells t.cells.toArray 47)) 52 slt0.entA
 have hb0:Below w.heap.size w ((w.alloc (.cells t.cells.toArray 47)).alloc (.cells #[.int .i64 0,.bool false,.int .u64 0,.int .u64 0,.bool false,.int .u64 0,.int .u64 0,.int .i64 0,.int .i64 0,.int .i64 0,.int .i64 0,.int .i64 0,.int .u64 0,.int .i64 0] 52)):=Aa (Aa (Below.refl _ _) _) _
 rw [World.size_alloc] at B2
 obtain ⟨X,hX⟩:∃ X:Nat→Prop,∀ y,¬ X y:=⟨fun _=>False,fun _ h=>h⟩
 have hlt:=fun y (hy:X y)=>show y<w.heap.size from absurd hy (hX y)
 have OF0:=fun (W:World) (hbW:Below ((w.alloc (.cells t.cells.toArray 47)).alloc (.cells #[.int .i64 0,.bool false,.int .u64 0,.int .u64 0,.bool false,.int .u64 0,.int .u64 0,.int .i64 0,.int .i64 0,.int .i64 0,.int .i64 0,.int .i64 0,.int .u64 0,.int .i64 0] 52)).heap.size ((w.alloc (.cells t.cells.toArray 47)).alloc (.cells #[.int .i64 0,.bool false,.int .u64 0,.int .u64 0,.bool false,.int .u64 0,.int .u64 0,.int .i64 0,.int .i64 0,.int .i64 0,.int .i64 0,.int .i64 0,.int .u64 0,.int .i64 0] 52)) W)=>KZ (h.call (A8 hbW hb0)) t.p
 have OP0:=fun (W:World)=>KQ (.pointer none) t n W (fun W2 _=>Cw W2)
 obtain ⟨ov,hov⟩:∃ x,slt0=x:=⟨_,rfl⟩
 have hov2:slt0.val=ov.val:=by rw [hov]
 rw [hov2] at OP0
 rw [hov2]
 clear h hov hov2
 go_enter Tryz.func46,Tryz.ntmps46
 go_upto_region 1 with fail
 change Code.wp _ _ _ _ ((w.alloc (.cells t.cells.toArray 47)).alloc (.cells #[.int .i64 0,.bool false,.int .u64 0,.int .u64 0,.bool false,.int .u64 0,.int .u64 0,.int .i64 0,.int .i64 0,.int .i64 0,.int .i64 0,.int .i64 0,.int .u64 0,.int .i64 0] 52))
 have hw1:((w.alloc (.cells t.cells.toArray 47)).alloc (.cells #[.int .i64 0,.bool false,.int .u64 0,.int .u64 0,.bool false,.int .u64 0,.int .u64 0,.int .i64 0,.int .i64 0,.int .i64 0,.int .i64 0,.int .i64 0,.int .u64 0,.int .i64 0] 52)).heap.size=w.heap.size+2:=by rw [World.size_alloc,World.size_alloc]
 generalize (w.alloc (.cells t.cells.toArray 47)).alloc (.cells #[.int .i64 0,.bool false,.int .u64 0,.int .u64 0,.bool false,.int .u64 0,.int .u64 0,.int .i64 0,.int .i64 0,.int .i64 0,.int .i64 0,.int .i64 0,.int .u64 0,.int .i64 0] 52)=w1 at *
 obtain ⟨rt,hrt⟩:∃ rt,w.heap.size=rt:=⟨_,rfl⟩
 rw [hrt] at B1 B2 hw1
 try rw [hrt]
 have hXrt:∀ y,X y→y<rt:=fun y hy=>by have:=hlt y hy;omega
 have OF:=Lib.hid OF0
 have OP:=Lib.hid OP0
 clear OF0 OP0
 have hS1:TupAt rt t w1.drew:=TupAt.of B1
 replace B2:=Lib.hid B2
 refine wp_region_held_drew (S:=TupAt rt t) (by kernel_rfl) hS1 (fun hHeld=>?_)
 have hd:Below w1.heap.size w1 w1.drew:=(Below.refl _ _).drew
 generalize w1.drew=wd at *
 refine tq 0 ?_;try go_frame
 refine tq 1 ?_;try go_frame
 refine tq 2 ?_;try go_frame
 refine tq 4 ?_;try go_frame
 refine tq 5 ?_;try go_frame
 refine oneH 3 fun K hK=>?_
 go_simp
 (go_at_call 103;(with_reducible refine (OF.out _ hd).mono ?_))
 rintro e w2 ⟨rfl,hb2⟩
 refine hK.out _ _ (hHeld.call hb2) (fun hHeld=>?_)
 clear hK K
 try go_frame
 refine oneH 6 fun K hK=>?_
 go_simp
 (go_at_call 17;(with_reducible refine (OP.out _).mono ?_))
 rintro e w3 ⟨rfl,hb3⟩
 refine hK.out _ _ (hHeld.call hb3) (fun hHeld=>?_)
 clear hK K
 try go_frame
 refine tq 7 ?_;try go_frame
 refine tq 8 ?_;try go_frame
 refine oneH 9 fun K hK=>?_
 rw [if_pos (by rfl)]
 have hb4:=A8 hb3 (A8 hb2 hd)
 have BR:Blk w3 (rt+1) 52 slt0.entA:=B2.out.call hb4
 with_reducible refine Ae (r:=rt+1) (z:=slt0) (.tmp 6) (.tmp 15) rfl BR ov rfl rfl ?_
 obtain ⟨e1,e2⟩:=Ab BR ov
 generalize Ac w3 (rt+1) ov=w6 at *
 refine hK.out _ _ (hHeld.chg e2 (fun e=>by have e3:rt=rt+1:=e;omega)) (fun hHeld=>?_)
 clear hK K
 try go_frame
 refine tq 10 ?_;try go_frame
 refine wpAnyH_done (by kernel_rfl) ?_ _
 clear hHeld
 have hend:Below w.heap.size w w6:=Ar (A8 hb4 hb0) e2 (fun y hy e=>by have e3:y=rt+1:=e;omega) (by have:=hb4.size;omega)
 replace hend:=Lib.hid hend
 have hE6:=EntAt.of e1
 clear BR e2
 go_wp2_with fail
 refine bodyPost_ret (v:=.tuple #[ov.val,.bool false]) (DV _ _ _ _ _ rfl rfl hE6) rfl ?_
 exact ⟨rfl,hend.out⟩
theorem Oo (h:KNo v w) (x:Slt):Calls Tryz.prog 44 #[v,x.val] w fun e w'=>e=.returned (.int .u64 0)∧Below w.heap.size w w':=by
 have OF:=Lib.hid fun (W:World) (hbW:Below w.heap.size w W)=>KZ (h.call hbW) x.t.p
 have hS:EntAt w.heap.size x (w.alloc (.cells x.ent.toArray 52)):=EntAt.of (Blk.new w 52 x.entA)
 have hb0:Below w.heap.size w (w.alloc (.cells x.ent.toArray 52)):=Aa (Below.refl _ _) _
 clear h
 go_enter Tryz.func44,Tryz.ntmps44
 go_upto_region 1 with fail
 change Code.wp _ _ _ _ (w.alloc (.cells x.ent.toArray 52))
 generalize w.alloc (.cells x.ent.toArray 52)=w1 at *
 obtain ⟨rt,hrt⟩:∃ rt,w.heap.size=rt:=⟨_,rfl⟩
 rw [hrt] at hS
 try rw [hrt]
 have hS1:EntAt rt x w1.drew:=hS
 refine wp_region_held_drew (S:=EntAt rt x) (by kernel_rfl) hS1 (fun hHeld=>?_)
 have hd:Below w.heap.size w w1.drew:=hb0.drew
 generalize w1.drew=wd at *
 clear hb0
 refine tq 0 ?_;try go_frame
 refine tq 1 ?_;try go_frame
 refine tq 2 ?_;try go_frame
 refine tq 3 ?_;try go_frame
 refine tq 5 ?_;try go_frame
 refine oneH 4 fun K hK=>?_
 go_simp
 (go_at_call 103;(with_reducible refine (OF.out _ hd).mono ?_))
 rintro e w2 ⟨rfl,hb2⟩
 refine hK.out _ _ (hHeld.call hb2) (fun hHeld=>?_)
 clear hK K
 try go_frame
 refine oneH 6 fun K hK=>?_
 go_simp
 (go_at_call 32;(with_reducible refine (Ht x _).mono ?_))
 rintro e w3 ⟨rfl,hb3⟩
 refine hK.out _ _ (hHeld.call hb3) (fun hHeld=>?_)
 clear hK K
 try go_frame
 refine tq 7 ?_;try go_frame
 refine wpAnyH_done (by kernel_rfl) ?_ _
 go_wp2_with fail
 go_ret
 exact ⟨rfl,A8 hb3 (A8 hb2 hd)⟩
end
def awK:KRule:=⟨false,1,0,true,1,0,0,0,1,1,1,1,1,1⟩
def awT17:Tup:=⟨17,false,0,0,false,0,0,0,0⟩
theorem Ot:Bg awK=true∧BH awK (kNew awK) awT17 7 0=0:=⟨rfl,rfl⟩
set_option maxRecDepth 100000 in
set_option maxHeartbeats 16000000 in
theorem Fc (w:World):Calls Tryz.prog 36 #[] w fun e w'=>e=.returned (.bool true)∧Below w.heap.size w w':=by
 obtain ⟨hR,e1⟩:=Ot
 have hI:=KI.new hR
 have ht:tupWf awT17:=⟨by decide,by decide,by decide,by decide⟩
 have NW:Calls Tryz.prog 37 #[.agg #[.bool false,.int .i64 1,.int .i64 0,.bool true,.int .i64 1,.int .i64 0,.int .u64 0,.int .u64 0,.int .i64 1,.int .i64 1,.int .i64 1,.int .i64 1,.int .i64 1,.int .i64 1]] w _:=MD awK hR w
 replace NW:=Lib.hid NW
 go_enter Tryz.func36,Tryz.ntmps36
 go_upto_region 2 with (go_at_call 37;(with_reducible refine NW.out.mono ?_);rintro e w1 ⟨k,X1,rfl,hK1,hb1,hX1⟩)
 obtain ⟨ck,c,hck,hck2,hfo,hfv,-⟩:=DA (r:=awK.rb (isT awT17)) (n:=awK.n (isT awT17)) (s:=kPt awK (kNew awK) awT17) (Bf hR _) rfl ((hI.lk _).ti _ (hI.pix awT17)) awT17 7 0 e1
 have OP:Calls Tryz.prog 42 #[ptr0 k.g,.agg #[.int .i64 17,.bool false,.int .u64 0,.int .u64 0,.bool false,.int .u64 0,.int .u64 0,.int .i64 0,.int .i64 0],.int .i64 7,.int .i64 0] w1 _:=JX hI hK1 awT17 ht 7 0
 have hI2:=hI.open ht 7 0
 have hfo':FO awK (kOpen awK (kNew awK) awT17 7 0) awT17 ck=true:=by
  unfold FO kPt kOpen kUpd
  dsimp only
  rw [Ee,Bm]
  exact hfo
 have hM:lmGet (kOpen awK (kNew awK) awT17 7 0).M 7=1:=by
  have:=hI2.ld.get 7
  show lmGet (if BH awK (kNew awK) awT17 7 0=0 then lmAdd [] 7 1 else []) 7=1
  rw [if_pos e1]
  rfl
 have e3:Ey awK (kNew awK) awT17 7 0=ck:=hck
 rw [e1,e3] at OP
 obtain ⟨s1,hs1⟩:∃ s,kOpen awK (kNew awK) awT17 7 0=s:=⟨_,rfl⟩
 obtain ⟨x2,hx2⟩:∃ x,D8 awK (kNew awK) awT17 7 0=x:=⟨_,rfl⟩
 rw [hs1] at OP hI2 hfo' hM
 rw [hx2] at OP
 replace OP:=Lib.hid OP
 clear hfo hfv hck e1 e3 hI hs1 hx2 NW
 have hIn1:Ob.In (Aj k awK (kNew awK)) w w1∧∀ y,X1 y→w.heap.size≤y:=⟨⟨hb1,X1,hK1,hX1⟩,hX1⟩
 have hIn2:=Lib.hid fun (w2:World) (hT:(Aj k awK s1).To w1 w2 X1)=>show Ob.In (Aj k awK s1) w w2 from by
  obtain ⟨X2,k1,k2,k3⟩:=hT
  have hz:=hb1.size
  refine ⟨Ar hb1 k2 (fun b hb hx=>by have:=hX1 b hx;omega) hz,X2,k1,fun y hy=>?_⟩
  rcases k3 y hy with h | h
  · exact hX1 y h
  · omega
 clear hb1 hX1 hIn1 hK1
 go_upto_region 3 with (go_at_call 42;(with_reducible refine OP.out.mono ?_);rintro e w2 ⟨rfl,hT2⟩)
 change Code.wp _ _ _ _ (w2.alloc (.cells x2.entA 52))
 have hN3:=(hIn2.out _ hT2).call keepOb_ok (Aa (Below.refl _ _) (.cells x2.entA 52))
 generalize w2.alloc (.cells x2.entA 52)=w3 at *
 clear OP hT2 hIn2
 obtain ⟨hb3,X3,hK3,hX3⟩:=hN3
 obtain ⟨x3,hx3⟩:∃ x,H0 awK s1 awT17 ck=x:=⟨_,rfl⟩
 obtain ⟨s2,hs2⟩:∃ s,kFind awK s1 awT17 ck=s:=⟨_,rfl⟩
 have hM2:lmGet s2.M 7=1:=by rw [← hs2];exact hM
 have FD:Calls Tryz.prog 46 #[ptr0 k.g,.agg #[.int .i64 17,.bool false,.int .u64 0,.int .u64 0,.bool false,.int .u64 0,.int .u64 0,.int .i64 0,.int .i64 0],.int .u64 (ck:Int)] w3 _:=K0 hI2 hK3 awT17 ck hck2
 rw [hfo',hx3,hs2] at FD
 replace FD:=Lib.hid FD
 have hIn4:=Lib.hid fun (w4:World) (hT:(Aj k awK s2).To w3 w4 X3)=>show Ob.In (Aj k awK s2) w w4 from by
  obtain ⟨X4,k1,k2,k3⟩:=hT
  have hz:=hb3.size
  refine ⟨Ar hb3 k2 (fun b hb hx=>by have:=hX3 b hx;omega) hz,X4,k1,fun y hy=>?_⟩
  rcases k3 y hy with h | h
  · exact hX3 y h
  · omega
 clear hb3 hX3 hK3 hx3 hs2 hM hfo' hI2
 go_upto_region 5 with (go_at_call 46;(with_reducible refine FD.out.mono ?_);rintro e w4 ⟨rfl,hT4⟩)
 change Code.wp _ _ _ _ (w4.alloc (.cells x3.entA 52))
 have hN5:=(hIn4.out _ hT4).call keepOb_ok (Aa (Below.refl _ _) (.cells x3.entA 52))
 generalize w4.alloc (.cells x3.entA 52)=w5 at *
 clear FD hT4 hIn4
 go_upto_region 6 with fail
 change Code.wp _ _ _ _ (w5.alloc (.cells keepZ 150))
 have Z:Blk (w5.alloc (.cells keepZ 150)) w5.heap.size 150 keepZ:=Blk.new w5 _ _
 have hN6:=hN5.call keepOb_ok (Aa (Below.refl _ _) (.cells keepZ 150))
 obtain ⟨z,hz⟩:∃ z,w5.heap.size=z:=⟨_,rfl⟩
 rw [hz] at Z
 try rw [hz]
 generalize w5.alloc (.cells keepZ 150)=w6 at *
 clear hN5
 have ON:Calls Tryz.prog 42 #[.pointer none,.agg #[.int .i64 0,.bool false,.int .u64 0,.int .u64 0,.bool false,.int .u64 0,.int .u64 0,.int .i64 0,.int .i64 0],.int .i64 1,.int .i64 0] w6 _:=RU (.inl rfl) tup0 1 0
 replace ON:=Lib.hid ON
 go_upto_region 7 with (go_at_call 42;(with_reducible refine ON.out.mono ?_);rintro e w7 ⟨rfl,hb7⟩)
 change Code.wp _ _ _ _ (w7.alloc (.cells slt0.entA 52))
 have hb8:=Aa hb7 (.cells slt0.entA 52)
 have hN8:=hN6.call keepOb_ok hb8
 replace Z:=Z.call hb8
 generalize w7.alloc (.cells slt0.entA 52)=w8 at *
 clear ON hb7 hb8 hN6
 have GP:=Lib.hid (kno_go (.inr ⟨z,rfl,Z⟩) 1)
 go_upto_region 8 with (go_at_call 50;(with_reducible refine GP.out.mono ?_);rintro e w9 ⟨rfl,rfl⟩)
 have FN:Calls Tryz.prog 46 #[.pointer none,.agg #[.int .i64 0,.bool false,.int .u64 0,.int .u64 0,.bool false,.int .u64 0,.int .u64 0,.int .i64 0,.int .i64 0],.int .u64 0] w8 _:=RV (.inl rfl) tup0 0
 replace FN:=Lib.hid FN
 clear GP
 go_upto_region 9 with (go_at_call 46;(with_reducible refine FN.out.mono ?_);rintro e w10 ⟨rfl,hb10⟩)
 change Code.wp _ _ _ _ (w10.alloc (.cells slt0.entA 52))
 have hb11:=Aa hb10 (.cells slt0.entA 52)
 have hN11:=hN8.call keepOb_ok hb11
 replace Z:=Z.call hb11
 generalize w10.alloc (.cells slt0.entA 52)=w11 at *
 clear FN hb10 hb11 hN8
 obtain ⟨hbF,X9,hK9,-⟩:=hN11
 have LD:=Lib.hid (J1 hK9)
 have GT:=RK hK9 (id:=7) (by decide)
 rw [hM2] at GT
 replace GT:=Lib.hid GT
 have LN:=Lib.hid (Qz (v:=.pointer none) (w:=w11) (.inl rfl))
 have LV:=Lib.hid (RL (.inr ⟨z,rfl,Z⟩))
 have DN:=Lib.hid (RM (v:=.pointer none) (w:=w11) (.inl rfl) 1)
 have FP:=Lib.hid (RN (.inr ⟨z,rfl,Z⟩) 6 0)
 have CN:=Lib.hid fun (W:World)=>show Calls Tryz.prog 44 #[.pointer none,.agg #[.int .i64 0,.bool false,.int .u64 0,.int .u64 0,.bool false,.int .u64 0,.int .u64 0,.int .i64 0,.int .i64 0,.int .i64 0,.int .i64 0,.int .i64 0,.int .u64 0,.int .i64 0]] W _ from Oo (.inl rfl) slt0
 clear hK9 Z hM2 hck2
 go_wp2_with (first
  | (go_at_call 57;(with_reducible refine LD.out.mono ?_);rintro e wa ⟨rfl,rfl⟩)
  | (go_at_call 61;(with_reducible refine GT.out.mono ?_);rintro e wb ⟨rfl,rfl⟩)
  | (go_at_call 57;(with_reducible refine LN.out.mono ?_);rintro e wc ⟨rfl,rfl⟩)
  | (go_at_call 54;(with_reducible refine LV.out.mono ?_);rintro e wd ⟨rfl,rfl⟩)
  | (go_at_call 52;(with_reducible refine DN.out.mono ?_);rintro e we ⟨rfl,rfl⟩)
  | (go_at_call 62;(with_reducible refine FP.out.mono ?_);rintro e wf ⟨rfl,hbf⟩)
  | (go_at_call 44;(with_reducible refine (CN.out _).mono ?_);rintro e wg ⟨rfl,hbg⟩))
 go_ret
 exact ⟨rfl,Ah hbg (Ah hbf hbF (by have:=hbF.size;omega)) (by have:=hbF.size;have:=hbf.size;omega)⟩
end Go.Proofs.YteklkljndchjiaaGreat
