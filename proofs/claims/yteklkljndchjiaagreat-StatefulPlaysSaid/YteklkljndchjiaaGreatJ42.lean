/- tables: Open. tables: Find. tables: Touch. -/
import Derived.Test.YteklkljndchjiaaGreatJ39
import Derived.Deep.CutRange
import Derived.Maps.RangeWalk
import Derived.Test.YteklkljndchjiaaGreatJ34
import Derived.Test.YteklkljndchjiaaGreatJ4
namespace Go.Proofs.YteklkljndchjiaaGreat
open Go Go.RowKit Go.Deep Go.Maps Go.ChangeMaps
theorem EL {w:World} {g sb n:Nat} {c:TCfg} {s:TSt} {X:Nat→Prop} (h:TabP w g sb n c s X):n≤4096:=h.rng.2.2
theorem Co {w w':World} {g sb n:Nat} {c:TCfg} {s:TSt} {X:Nat→Prop} (t:TabTo w w' g sb n c s X):Chg X w w':=by
 obtain ⟨_,_,h,_⟩:=t
 exact h
theorem JQ {c:TCfg} {s:TSt} {t:Tup} {bk fl:Int} (h:openE s t bk fl≠0):openV c s t bk fl=slt0:=by
 by_cases ho:Bh t bk fl=true
 ·
  cases hL:s.L with
  | nil=>simp [openV,ho,hL]
  | cons a l=>exact absurd (by simp [openE,ho,hL]) h
 · simp [openV,ho]
theorem JR {c:TCfg} {n:Nat} {s:TSt} {t:Tup} {bk fl:Int} (hi:TI n s) (h:openE s t bk fl=0):0≤(openV c s t bk fl).gen∧(openV c s t bk fl).gen<18446744073709551616:=by
 by_cases ho:Bh t bk fl=true
 ·
  cases hL:s.L with
  | nil=>simp [openE,ho,hL] at h
  | cons a l =>
   have ha:=hi.rng a (by rw [hL];exact List.mem_cons_self)
   have hg:=hi.gr a.toNat (by omega)
   simpa [openV,ho,hL,openX] using hg
 · simp [openE,ho] at h
def Dz (r:TRule) (s:TSt) (t:Tup) (bk fl:Int):Int:=if openE s t bk fl=0 then makeI r.wd r.sl r.gn r.ka r.kb (openV r.cfg s t bk fl).t (openV r.cfg s t bk fl).sl (openV r.cfg s t bk fl).gen else 0
@[reducible] def TupAt (rt:Nat) (t:Tup) (W:World):Prop:=W.cell? ⟨rt,0,none⟩=some (.int .i64 t.p)∧W.cell? ⟨rt,1,none⟩=some (.bool t.v)∧W.cell? ⟨rt,2,none⟩=some (.int .u64 t.hi)∧W.cell? ⟨rt,3,none⟩=some (.int .u64 t.lo)∧W.cell? ⟨rt,4,none⟩=some (.bool t.v')∧W.cell? ⟨rt,5,none⟩=some (.int .u64 t.hi')∧W.cell? ⟨rt,6,none⟩=some (.int .u64 t.lo')∧W.cell? ⟨rt,7,none⟩=some (.int .i64 t.sp)∧W.cell? ⟨rt,8,none⟩=some (.int .i64 t.dp)
theorem TupAt.chg {rt:Nat} {t:Tup} {W W':World} {F:Nat→Prop} (h:TupAt rt t W) (hc:Chg F W W') (hF:¬ F rt):TupAt rt t W':=by
 obtain ⟨h0,h1,h2,h3,h4,h5,h6,h7,h8⟩:=h
 exact ⟨(Af hc (A0 h0) hF).trans h0,(Af hc (A0 h1) hF).trans h1,(Af hc (A0 h2) hF).trans h2,(Af hc (A0 h3) hF).trans h3,(Af hc (A0 h4) hF).trans h4,(Af hc (A0 h5) hF).trans h5,(Af hc (A0 h6) hF).trans h6,(Af hc (A0 h7) hF).trans h7,(Af hc (A0 h8) hF).trans h8⟩
theorem TupAt.call {rt:Nat} {t:Tup} {W W':World} (h:TupAt rt t W) (hb:Below W.heap.size W W'):TupAt rt t W':=h.chg (F:=fun _=>False) (Chg.of_below hb) (fun h=>h)
theorem TupAt.of {rt:Nat} {t:Tup} {W:World} (h:Blk W rt 47 t.cells.toArray):TupAt rt t W:=⟨h.cell 0,h.cell 1,h.cell 2,h.cell 3,h.cell 4,h.cell 5,h.cell 6,h.cell 7,h.cell 8⟩
theorem Ev (F:Array Value) (q:Nat) (x:Slt) (ck e:Int) (W:World) (h8:F[8]?=some (.pointer (some ⟨q,0,none⟩))) (h9:F[9]?=some (.int .u64 ck)) (h10:F[10]?=some (.int .i64 e)) (hE:EntAt q x W):Sem.run Tryz.prog (results Tryz.f15 F) W=.ok (.tuple #[x.val,.int .u64 ck,.int .i64 e]) W:=by
 obtain ⟨r0,r1,r2,r3,r4,r5,r6,r7,r8,r9,r10,r11,r12,r13⟩:=hE
 simp [results,Tryz.results15,go_sem,h8,h9,h10,r0,r1,r2,r3,r4,r5,r6,r7,r8,r9,r10,r11,r12,r13]
section
variable {w w':World} {g p n:Nat} {r:TRule} {S:Nat→TSt} {X F:Nat→Prop}
set_option maxRecDepth 100000 in
set_option maxHeartbeats 8000000 in
theorem Ql (h:TabsP w g r p n S X) (hTI:∀ i,i<p→TI n (S i)) (hR:r.cfg.right) (t:Tup) (bk fl:Int) :
  Calls Tryz.prog 15 #[.pointer (some ⟨g,0,none⟩),t.val,.int .i64 bk,.int .i64 fl] w fun e w'=>e=.returned (.tuple #[(openV r.cfg (S (pIx r t)) t bk fl).val,.int .u64 (Dz r (S (pIx r t)) t bk fl),.int .i64 (openE (S (pIx r t)) t bk fl)])∧D6 w w' g r p n (updS S (pIx r t) (openS r.cfg n (S (pIx r t)) t bk fl)) X:=by
 obtain ⟨pb,q0,gs,sbs,Xs,hW⟩:=h
 have hlt:=fun y (hy:X y)=>hW.lt hy
 have hp1:=hW.p1
 obtain ⟨-,hpl⟩:=Eu r t hW.np hW.p1 hW.p16
 obtain ⟨i,hpi⟩:∃ i,pIx r t=i:=⟨_,rfl⟩
 rw [hpi] at hpl ⊢
 have hti:=hTI i hpl
 obtain ⟨ov,hov⟩:∃ v,openV r.cfg (S i) t bk fl=v:=⟨_,rfl⟩
 obtain ⟨oe,hoe⟩:∃ v,openE (S i) t bk fl=v:=⟨_,rfl⟩
 obtain ⟨os,hos⟩:∃ v,openS r.cfg n (S i) t bk fl=v:=⟨_,rfl⟩
 have hck:Dz r (S i) t bk fl=if oe=0 then makeI r.wd r.sl r.gn r.ka r.kb ov.t ov.sl ov.gen else 0:=by unfold Dz;rw [hov,hoe]
 have hno:oe≠0→ov=slt0:=fun h=>by rw [← hov];rw [← hoe] at h;exact JQ h
 have hgn:oe=0→0≤ov.gen∧ov.gen<18446744073709551616:=fun h=>by rw [← hov];rw [← hoe] at h;exact JR hti h
 rw [hck,hov,hoe,hos]
 have B1:=(Blk.new w 47 t.cells.toArray).alloc (.cells #[.int .i64 0,.bool false,.int .u64 0,.int .u64 0,.bool false,.int .u64 0,.int .u64 0,.int .i64 0,.int .i64 0,.int .i64 0,.int .i64 0,.int .i64 0,.int .u64 0,.int .i64 0] 52)
 have B2:Blk ((w.alloc (.cells t.cells.toArray 47)).alloc (.cells #[.int .i64 0,.bool false,.int .u64 0,.int .u64 0,.bool false,.int .u64 0,.int .u64 0,.int .i64 0,.int .i64 0,.int .i64 0,.int .i64 0,.int .i64 0,.int .u64 0,.int .i64 0] 52)) (w.alloc (.cells t.cells.toArray 47)).heap.size 52 slt0.entA:=Blk.new (w.alloc (.cells t.cells.toArray 47)) 52 slt0.entA
 have hb0:Below w.heap.size w ((w.alloc (.cells t.cells.toArray 47)).alloc (.cells #[.int .i64 0,.bool false,.int .u64 0,.int .u64 0,.bool false,.int .u64 0,.int .u64 0,.int .i64 0,.int .i64 0,.int .i64 0,.int .i64 0,.int .i64 0,.int .u64 0,.int .i64 0] 52)):=Aa (Aa (Below.refl _ _) _) _
 rw [World.size_alloc] at B2
 have h1:=hW.call hb0
 clear hW hTI hck
 go_enter Tryz.func15,Tryz.ntmps15
 go_upto_region 1 with fail
 change Code.wp _ _ _ _ ((w.alloc (.cells t.cells.toArray 47)).alloc (.cells #[.int .i64 0,.bool false,.int .u64 0,.int .u64 0,.bool false,.int .u64 0,.int .u64 0,.int .i64 0,.int .i64 0,.int .i64 0,.int .i64 0,.int .i64 0,.int .u64 0,.int .i64 0] 52))
 have hw1:((w.alloc (.cells t.cells.toArray 47)).alloc (.cells #[.int .i64 0,.bool false,.int .u64 0,.int .u64 0,.bool false,.int .u64 0,.int .u64 0,.int .i64 0,.int .i64 0,.int .i64 0,.int .i64 0,.int .i64 0,.int .u64 0,.int .i64 0] 52)).heap.size=w.heap.size+2:=by rw [World.size_alloc,World.size_alloc]
 generalize (w.alloc (.cells t.cells.toArray 47)).alloc (.cells #[.int .i64 0,.bool false,.int .u64 0,.int .u64 0,.bool false,.int .u64 0,.int .u64 0,.int .i64 0,.int .i64 0,.int .i64 0,.int .i64 0,.int .i64 0,.int .u64 0,.int .i64 0] 52)=w1 at *
 obtain ⟨rt,hrt⟩:∃ rt,w.heap.size=rt:=⟨_,rfl⟩
 rw [hrt] at B1 B2 hw1
 try rw [hrt]
 have hXrt:∀ y,X y→y<rt:=fun y hy=>by have:=hlt y hy;omega
 have OF:=Lib.hid fun (W:World) (hb:Below w1.heap.size w1 W)=>KH ((h1.call hb).read) t
 rw [hpi] at OF
 have OP:=Lib.hid fun (W:World) (hb:Below w1.heap.size w1 W)=>Rg ((h1.call hb).tab i hpl) hti.sl (hti.mlen5 (EL (h1.tab i hpl))) hR t bk fl
 rw [hov,hoe,hos] at OP
 have hS1:TupAt rt t w1.drew:=TupAt.of B1
 have FIN:∀ (q:Nat) (W w3 wX:World),Below w1.heap.size w1 W→TabTo W w3 (gs i) (sbs i) n r.cfg os (Xs i)→(∃ F:Nat→Prop,Chg F w3 wX∧∀ y,¬ F y)→w1.heap.size≤q→(q<W.heap.size∨w3.heap.size≤q)→Blk wX q 52 slt0.entA →
   rt+1<q∧Blk (Ac wX q ov) q 52 ov.entA∧Blk (Ac wX q ov) (rt+1) 52 slt0.entA∧∃ Xs' X',TabsW (Ac wX q ov) g r p n (updS S i os) X' pb q0 gs sbs Xs'∧Chg X w (Ac wX q ov)∧(∀ y,X' y→X y∨w.heap.size≤y)∧¬ X' (rt+1):=by
  intro q W w3 wX hb hT hF hq1 hq2 hB
  obtain ⟨F,hF,hF0⟩:=hF
  obtain ⟨Xs',X',k1,k2,k3⟩:=(h1.call hb).part hpl hT
  obtain ⟨e1,e2⟩:=Ab hB ov
  have hz:=hb.size
  have hz3:=k2.size
  have hXq:∀ y,X' y→y≠q:=fun y hy e=>by
   rcases k3 y hy with h | h
   ·
    have:=hXrt y h
    omega
   ·
    have:=k1.lt hy
    omega
  have hk:Chg (·=q) w3 (Ac wX q ov):=(hF.mono fun y _ h=>absurd h (hF0 y)).trans e2 fun y _ h=>h
  have hkw:Chg X w w3:=((Chg.of_below hb0).trans (Chg.of_below (F:=X) hb) (fun _ _ h=>h)).trans k2 (fun _ _ h=>h)
  refine ⟨by omega,e1,?_,Xs',X',k1.chg hk hXq,hkw.trans hk fun y hy e=>by have e2:y=q:=e;omega,fun y hy=>?_,fun hy=>?_⟩
  ·
   refine (((B2.call hb).chg k2 fun e=>?_).chg hk fun e=>?_)
   ·
    have:=hXrt _ e
    omega
   ·
    have e2:rt+1=q:=e
    omega
  ·
   rcases k3 y hy with h | h
   · exact .inl h
   · exact .inr (by omega)
  ·
   rcases k3 _ hy with h | h
   ·
    have:=hXrt _ h
    omega
   · omega
 replace FIN:=Lib.hid FIN
 have hYr:¬ Xs i rt:=fun e=>by have:=hXrt _ (h1.iX hpl _ e);omega
 have hYq:∀ q,w1.heap.size≤q→¬ Xs i q:=fun q hq e=>by have:=(h1.tab i hpl).lt e;omega
 replace hno:=Lib.hid hno
 replace hgn:=Lib.hid hgn
 replace hti:=Lib.hid hti
 clear hov hoe hos hpi B1 B2 hlt h1
 go_cut [11,12] from 13 to 30 (fun x11 x12 wx=>∃ q,x11=.pointer (some ⟨q,0,none⟩)∧x12=.int .i64 oe∧rt+1<q∧Blk wx q 52 ov.entA∧Blk wx (rt+1) 52 slt0.entA∧∃ Xs' X',TabsW wx g r p n (updS S i os) X' pb q0 gs sbs Xs'∧Chg X w wx∧(∀ y,X' y→X y∨w.heap.size≤y)∧¬ X' (rt+1))
 case first =>
  as_aux_lemma =>
  refine wp_region_held_drew (S:=TupAt rt t) (by kernel_rfl) hS1 (fun hHeld=>?_)
  have hd:Below w1.heap.size w1 w1.drew:=(Below.refl _ _).drew
  have hzd:w1.drew.heap.size=w1.heap.size:=rfl
  generalize w1.drew=wd at *
  replace hzd:=Lib.hid hzd
  refine tq 0 ?_;try go_frame
  refine tq 1 ?_;try go_frame
  refine tq 3 ?_;try go_frame
  refine tq 4 ?_;try go_frame
  refine tq 5 ?_;try go_frame
  refine wpAnyH_ready (rs:=[2,10]) (by kernel_rfl) (by simp) ?_;refine consH rfl (fun K hK=>?_) (consH rfl (fun K hK=>?_) AllReadyH.nil)
  ·
   go_simp
   (go_at_call 79;(with_reducible refine (OF.out _ hd).mono ?_))
   rintro e w2 ⟨rfl,hb2⟩
   refine hK.out _ _ (hHeld.call hb2) (fun hHeld=>?_)
   clear hK K
   try go_frame
   refine wpAnyH_ready (rs:=[6,10]) (by kernel_rfl) (by simp) ?_;refine consH rfl (fun K hK=>?_) (consH rfl (fun K hK=>?_) AllReadyH.nil)
   ·
    go_simp
    (go_at_call 80;(with_reducible refine (OP.out _ (A8 hb2 hd)).mono ?_))
    rintro e w3 ⟨rfl,hT3⟩
    refine hK.out _ _ (hHeld.chg (Co hT3) hYr) (fun hHeld=>?_)
    clear hK K
    try go_frame
    refine tq 7 ?_;try go_frame
    refine tq 8 ?_;try go_frame
    refine tq 9 ?_;try go_frame
    refine oneH 10 fun K hK=>?_
    go_simp
    refine hK.out _ _ (hHeld.call (Aa (Below.refl _ _) _)) (fun hHeld=>?_)
    clear hK K
    try go_frame
    have hsz:=(Co hT3).size
    have hsz2:=hb2.size
    refine oneH 11 fun K hK=>?_
    rw [if_pos (by rfl)]
    have BQ:Blk (w3.alloc (.cells #[.int .i64 0,.bool false,.int .u64 0,.int .u64 0,.bool false,.int .u64 0,.int .u64 0,.int .i64 0,.int .i64 0,.int .i64 0,.int .i64 0,.int .i64 0,.int .u64 0,.int .i64 0] 52)) w3.heap.size 52 slt0.entA:=Blk.new w3 52 slt0.entA
    with_reducible refine Ae (r:=w3.heap.size) (z:=slt0) (.tmp 11) (.tmp 21) rfl BQ ov rfl rfl ?_
    refine hK.out _ _ (hHeld.chg (Ab BQ ov).2 (fun e=>by have e2:rt=w3.heap.size:=e;have h9:=hzd.out;omega)) (fun hHeld=>?_)
    clear hK K
    try go_frame
    refine tq 12 ?_;try go_frame
    refine wpAnyH_done (by kernel_rfl) ?_ _
    go_wp2_with fail
    go_meet
    exact ⟨w3.heap.size,rfl,rfl,FIN.out w3.heap.size w2 w3 _ (A8 hb2 hd) hT3 ⟨fun _=>False,Chg.of_below (Aa (Below.refl _ _) _),fun _ h=>h⟩ (by have h9:=hzd.out;omega) (.inr (Nat.le_refl _)) BQ⟩
   ·
    go_simp
    refine hK.out _ _ (hHeld.call (Aa (Below.refl _ _) _)) (fun hHeld=>?_)
    clear hK K
    try go_frame
    refine oneH 6 fun K hK=>?_
    go_simp
    (go_at_call 80;(with_reducible refine (OP.out _ (A8 (Aa (Below.refl w2.heap.size w2) (.cells #[.int .i64 0,.bool false,.int .u64 0,.int .u64 0,.bool false,.int .u64 0,.int .u64 0,.int .i64 0,.int .i64 0,.int .i64 0,.int .i64 0,.int .i64 0,.int .u64 0,.int .i64 0] 52)) (A8 hb2 hd))).mono ?_))
    rintro e w3 ⟨rfl,hT3⟩
    refine hK.out _ _ (hHeld.chg (Co hT3) hYr) (fun hHeld=>?_)
    clear hK K
    try go_frame
    refine tq 7 ?_;try go_frame
    refine tq 8 ?_;try go_frame
    refine tq 9 ?_;try go_frame
    have hsz2:=hb2.size
    have hsa:(w2.alloc (.cells #[.int .i64 0,.bool false,.int .u64 0,.int .u64 0,.bool false,.int .u64 0,.int .u64 0,.int .i64 0,.int .i64 0,.int .i64 0,.int .i64 0,.int .i64 0,.int .u64 0,.int .i64 0] 52)).heap.size=w2.heap.size+1:=World.size_alloc _ _
    refine oneH 11 fun K hK=>?_
    rw [if_pos (by rfl)]
    have BQ:Blk w3 w2.heap.size 52 slt0.entA:=(Blk.new w2 52 slt0.entA).chg (Co hT3) (hYq _ (by have h9:=hzd.out;omega))
    with_reducible refine Ae (r:=w2.heap.size) (z:=slt0) (.tmp 11) (.tmp 21) rfl BQ ov rfl rfl ?_
    refine hK.out _ _ (hHeld.chg (Ab BQ ov).2 (fun e=>by have e2:rt=w2.heap.size:=e;have h9:=hzd.out;omega)) (fun hHeld=>?_)
    clear hK K
    try go_frame
    refine tq 12 ?_;try go_frame
    refine wpAnyH_done (by kernel_rfl) ?_ _
    go_wp2_with fail
    go_meet
    exact ⟨w2.heap.size,rfl,rfl,FIN.out w2.heap.size (w2.alloc (.cells #[.int .i64 0,.bool false,.int .u64 0,.int .u64 0,.bool false,.int .u64 0,.int .u64 0,.int .i64 0,.int .i64 0,.int .i64 0,.int .i64 0,.int .i64 0,.int .u64 0,.int .i64 0] 52)) w3 _ (A8 (Aa (Below.refl w2.heap.size w2) (.cells #[.int .i64 0,.bool false,.int .u64 0,.int .u64 0,.bool false,.int .u64 0,.int .u64 0,.int .i64 0,.int .i64 0,.int .i64 0,.int .i64 0,.int .i64 0,.int .u64 0,.int .i64 0] 52)) (A8 hb2 hd)) hT3 ⟨fun _=>False,Chg.refl _ _,fun _ h=>h⟩ (by have h9:=hzd.out;omega) (.inl (by omega)) BQ⟩
  ·
   go_simp
   refine hK.out _ _ (hHeld.call (Aa (Below.refl _ _) _)) (fun hHeld=>?_)
   clear hK K
   try go_frame
   refine oneH 2 fun K hK=>?_
   go_simp
   (go_at_call 79;(with_reducible refine (OF.out _ (A8 (Aa (Below.refl wd.heap.size wd) (.cells #[.int .i64 0,.bool false,.int .u64 0,.int .u64 0,.bool false,.int .u64 0,.int .u64 0,.int .i64 0,.int .i64 0,.int .i64 0,.int .i64 0,.int .i64 0,.int .u64 0,.int .i64 0] 52)) hd)).mono ?_))
   rintro e w2 ⟨rfl,hb2⟩
   refine hK.out _ _ (hHeld.call hb2) (fun hHeld=>?_)
   clear hK K
   try go_frame
   refine oneH 6 fun K hK=>?_
   go_simp
   (go_at_call 80;(with_reducible refine (OP.out _ (A8 hb2 (A8 (Aa (Below.refl wd.heap.size wd) (.cells #[.int .i64 0,.bool false,.int .u64 0,.int .u64 0,.bool false,.int .u64 0,.int .u64 0,.int .i64 0,.int .i64 0,.int .i64 0,.int .i64 0,.int .i64 0,.int .u64 0,.int .i64 0] 52)) hd))).mono ?_))
   rintro e w3 ⟨rfl,hT3⟩
   refine hK.out _ _ (hHeld.chg (Co hT3) hYr) (fun hHeld=>?_)
   clear hK K
   try go_frame
   refine tq 7 ?_;try go_frame
   refine tq 8 ?_;try go_frame
   refine tq 9 ?_;try go_frame
   have hsz2:=hb2.size
   have hsa:(wd.alloc (.cells #[.int .i64 0,.bool false,.int .u64 0,.int .u64 0,.bool false,.int .u64 0,.int .u64 0,.int .i64 0,.int .i64 0,.int .i64 0,.int .i64 0,.int .i64 0,.int .u64 0,.int .i64 0] 52)).heap.size=wd.heap.size+1:=World.size_alloc _ _
   refine oneH 11 fun K hK=>?_
   rw [if_pos (by rfl)]
   have BQ:Blk w3 wd.heap.size 52 slt0.entA:=((Blk.new wd 52 slt0.entA).call hb2).chg (Co hT3) (hYq _ (by have h9:=hzd.out;omega))
   with_reducible refine Ae (r:=wd.heap.size) (z:=slt0) (.tmp 11) (.tmp 21) rfl BQ ov rfl rfl ?_
   refine hK.out _ _ (hHeld.chg (Ab BQ ov).2 (fun e=>by have e2:rt=wd.heap.size:=e;have h9:=hzd.out;omega)) (fun hHeld=>?_)
   clear hK K
   try go_frame
   refine tq 12 ?_;try go_frame
   refine wpAnyH_done (by kernel_rfl) ?_ _
   go_wp2_with fail
   go_meet
   exact ⟨wd.heap.size,rfl,rfl,FIN.out wd.heap.size w2 w3 _ (A8 hb2 (A8 (Aa (Below.refl wd.heap.size wd) (.cells #[.int .i64 0,.bool false,.int .u64 0,.int .u64 0,.bool false,.int .u64 0,.int .u64 0,.int .i64 0,.int .i64 0,.int .i64 0,.int .i64 0,.int .i64 0,.int .u64 0,.int .i64 0] 52)) hd)) hT3 ⟨fun _=>False,Chg.refl _ _,fun _ h=>h⟩ (by have h9:=hzd.out;omega) (.inl (by omega)) BQ⟩
 case rest =>
  as_aux_lemma =>
  obtain ⟨q,rfl,rfl,hq,BQ,BR,Xs',X',hW',hc,hn,hnr⟩:=hcut
  clear FIN OP OF hYr hYq hti hXrt hS1
  replace hn:=Lib.hid hn
  replace hnr:=Lib.hid hnr
  replace hR:=Lib.hid hR
  by_cases h0:oe=0
  ·
   subst h0
   have hCK:=Lib.hid (Hi (hW'.read.call (Below.refl _ _).drew) ov (hgn.out rfl))
   have hE1:EntAt q ov wc.drew:=EntAt.of BQ
   replace BR:=Lib.hid BR
   replace hW':=Lib.hid hW'
   replace hc:=Lib.hid hc
   obtain ⟨ck,hck⟩:∃ ck,makeI r.wd r.sl r.gn r.ka r.kb ov.t ov.sl ov.gen=ck:=⟨_,rfl⟩
   rw [hck] at hCK
   go_upto_region 4 with fail
   refine wp_region_held_drew (S:=EntAt q ov) (by kernel_rfl) hE1 (fun hHeld=>?_)
   refine tq 0 ?_;try go_frame
   refine tq 1 ?_;try go_frame
   refine tq 2 ?_;try go_frame
   refine oneH 3 fun K hK=>?_
   go_simp
   (go_at_call 32;(with_reducible refine hCK.out.mono ?_))
   rintro e w5 ⟨rfl,hb5⟩
   refine hK.out _ _ (hHeld.call hb5) (fun hHeld=>?_)
   clear hK K
   try go_frame
   refine oneH 4 fun K hK=>?_
   rw [if_pos (by rfl)]
   have hb5':=A8 hb5 (Below.refl wc.heap.size wc).drew
   have BR5:=BR.out.call hb5'
   with_reducible refine Ae (r:=rt+1) (z:=slt0) (.tmp 8) (.tmp 27) rfl BR5 ov rfl rfl ?_
   obtain ⟨e1,e2⟩:=Ab BR5 ov
   generalize Ac w5 (rt+1) ov=w6 at *
   refine hK.out _ _ (hHeld.chg e2 (fun e=>by have e3:q=rt+1:=e;omega)) (fun hHeld=>?_)
   clear hK K
   try go_frame
   refine tq 5 ?_;try go_frame
   refine tq 6 ?_;try go_frame
   refine wpAnyH_done (by kernel_rfl) ?_ _
   have hT:D6 w w6 g r p n (updS S i os) X:=⟨X',⟨pb,q0,gs,sbs,Xs',(hW'.out.call hb5').chg e2 fun y hy e=>by have e3:y=rt+1:=e;subst e3;exact hnr.out hy⟩,((hc.out.trans (Chg.of_below (F:=X) hb5') (fun _ _ h=>h)).trans e2 fun y hy e=>by have e3:y=rt+1:=e;omega),hn.out⟩
   have hE6:=Lib.hid (EntAt.of e1)
   replace hT:=Lib.hid hT
   clear hHeld e1 e2
   go_wp2_with fail
   refine bodyPost_ret (v:=.tuple #[ov.val,.int .u64 ck,.int .i64 0]) (Ev _ _ _ _ _ _ rfl rfl rfl hE6.out) rfl ?_
   exact ⟨rfl,hT.out⟩
  ·
   have hne:(oe != 0)=true:=by simpa using h0
   have hov:=hno.out h0
   subst hov
   replace h0:=Lib.hid h0
   replace hW':=Lib.hid hW'
   replace hc:=Lib.hid hc
   clear BQ
   go_wp2_with (with_reducible refine Ao (r:=rt+1) (z:=slt0) rfl rfl (.tmp 8) (.tmp 25) rfl BR slt0 rfl rfl ?_)
   change bodyPost _ _ _ _ _ (Ac wc (rt+1) slt0)
   obtain ⟨e1,e2⟩:=Ab BR slt0
   generalize Ac wc (rt+1) slt0=w6 at *
   have hT:D6 w w6 g r p n (updS S i os) X:=⟨X',⟨pb,q0,gs,sbs,Xs',hW'.out.chg e2 fun y hy e=>by have e3:y=rt+1:=e;subst e3;exact hnr.out hy⟩,hc.out.trans e2 fun y hy e=>by have e3:y=rt+1:=e;omega,hn.out⟩
   replace hT:=Lib.hid hT
   have hE6:=EntAt.of e1
   refine bodyPost_ret (v:=.tuple #[slt0.val,.int .u64 0,.int .i64 oe]) (Ev _ _ _ _ _ _ rfl rfl rfl hE6) rfl ?_
   exact ⟨rfl,hT.out⟩
end
def Bp (r:TRule) (n:Nat) (s:TSt) (t:Tup) (k:Int):Bool:=BS r.wd r.sl r.gn r.ka r.kb t k && Be n s t (Cs r.wd r.sl r.gn r.ka r.kb t k) (D4 r.wd r.sl r.gn r.ka r.kb t k) r.gn
def Cg (r:TRule) (n:Nat) (s:TSt) (t:Tup) (k:Int):Slt:=if BS r.wd r.sl r.gn r.ka r.kb t k then findV n s t (Cs r.wd r.sl r.gn r.ka r.kb t k) (D4 r.wd r.sl r.gn r.ka r.kb t k) r.gn else slt0
def findSC (r:TRule) (n:Nat) (s:TSt) (t:Tup) (k:Int):TSt:=if BS r.wd r.sl r.gn r.ka r.kb t k then lookS n (Cs r.wd r.sl r.gn r.ka r.kb t k) s else s
@[reducible] def FindAt (g rt:Nat) (gn:Int) (t:Tup) (W:World):Prop:=W.cell? ⟨g,2,none⟩=some (.int .i64 gn)∧W.cell? ⟨rt,0,none⟩=some (.int .i64 t.p)∧W.cell? ⟨rt,1,none⟩=some (.bool t.v)∧W.cell? ⟨rt,2,none⟩=some (.int .u64 t.hi)∧W.cell? ⟨rt,3,none⟩=some (.int .u64 t.lo)∧W.cell? ⟨rt,4,none⟩=some (.bool t.v')∧W.cell? ⟨rt,5,none⟩=some (.int .u64 t.hi')∧W.cell? ⟨rt,6,none⟩=some (.int .u64 t.lo')∧W.cell? ⟨rt,7,none⟩=some (.int .i64 t.sp)∧W.cell? ⟨rt,8,none⟩=some (.int .i64 t.dp)
theorem FindAt.chg {g rt:Nat} {gn:Int} {t:Tup} {W W':World} {F:Nat→Prop} (h:FindAt g rt gn t W) (hc:Chg F W W') (hg:¬ F g) (hF:¬ F rt):FindAt g rt gn t W' :=
 ⟨(Af hc (A0 h.1) hg).trans h.1,TupAt.chg h.2 hc hF⟩
theorem FindAt.call {g rt:Nat} {gn:Int} {t:Tup} {W W':World} (h:FindAt g rt gn t W) (hb:Below W.heap.size W W'):FindAt g rt gn t W':=h.chg (F:=fun _=>False) (Chg.of_below hb) (fun h=>h) (fun h=>h)
theorem Ew (F:Array Value) (q:Nat) (x:Slt) (o:Bool) (W:World) (h6:F[6]?=some (.pointer (some ⟨q,0,none⟩))) (h7:F[7]?=some (.bool o)) (hE:EntAt q x W):Sem.run Tryz.prog (results Tryz.f17 F) W=.ok (.tuple #[x.val,.bool o]) W:=by
 obtain ⟨r0,r1,r2,r3,r4,r5,r6,r7,r8,r9,r10,r11,r12,r13⟩:=hE
 simp [results,Tryz.results17,go_sem,h6,h7,r0,r1,r2,r3,r4,r5,r6,r7,r8,r9,r10,r11,r12,r13]
section
variable {w w':World} {g p n:Nat} {r:TRule} {S:Nat→TSt} {X F:Nat→Prop}
set_option maxRecDepth 100000 in
set_option maxHeartbeats 8000000 in
theorem JS (h:TabsP w g r p n S X) (t:Tup) (k:Nat) (hk:k<18446744073709551616) :
  Calls Tryz.prog 17 #[.pointer (some ⟨g,0,none⟩),t.val,.int .u64 (k:Int)] w fun e w'=>e=.returned (.tuple #[(Cg r n (S (pIx r t)) t k).val,.bool (Bp r n (S (pIx r t)) t k)])∧D6 w w' g r p n (updS S (pIx r t) (findSC r n (S (pIx r t)) t k)) X:=by
 obtain ⟨pb,q0,gs,sbs,Xs,hW⟩:=h
 have hlt:=fun y (hy:X y)=>hW.lt hy
 obtain ⟨-,hpl⟩:=Eu r t hW.np hW.p1 hW.p16
 have CO:=Lib.hid fun W=>Su r.wd r.sl r.gn r.ka r.kb t k hk W
 obtain ⟨fV,hfV⟩:∃ v,Cg r n (S (pIx r t)) t k=v:=⟨_,rfl⟩
 obtain ⟨fO,hfO⟩:∃ v,Bp r n (S (pIx r t)) t k=v:=⟨_,rfl⟩
 obtain ⟨fS,hfS⟩:∃ v,findSC r n (S (pIx r t)) t k=v:=⟨_,rfl⟩
 rw [hfV,hfO,hfS]
 unfold Cg at hfV
 unfold Bp at hfO
 unfold findSC at hfS
 obtain ⟨sl,hsl⟩:∃ v,Cs r.wd r.sl r.gn r.ka r.kb t k=v:=⟨_,rfl⟩
 obtain ⟨gn,hgn⟩:∃ v,D4 r.wd r.sl r.gn r.ka r.kb t k=v:=⟨_,rfl⟩
 obtain ⟨ok,hok⟩:∃ v,BS r.wd r.sl r.gn r.ka r.kb t k=v:=⟨_,rfl⟩
 rw [hsl,hgn,hok] at hfV hfO CO
 rw [hsl,hok] at hfS
 have B1:=(Blk.new w 47 t.cells.toArray).alloc (.cells #[.int .i64 0,.bool false,.int .u64 0,.int .u64 0,.bool false,.int .u64 0,.int .u64 0,.int .i64 0,.int .i64 0,.int .i64 0,.int .i64 0,.int .i64 0,.int .u64 0,.int .i64 0] 52)
 have B2:Blk ((w.alloc (.cells t.cells.toArray 47)).alloc (.cells #[.int .i64 0,.bool false,.int .u64 0,.int .u64 0,.bool false,.int .u64 0,.int .u64 0,.int .i64 0,.int .i64 0,.int .i64 0,.int .i64 0,.int .i64 0,.int .u64 0,.int .i64 0] 52)) (w.alloc (.cells t.cells.toArray 47)).heap.size 52 slt0.entA:=Blk.new (w.alloc (.cells t.cells.toArray 47)) 52 slt0.entA
 have hb0:Below w.heap.size w ((w.alloc (.cells t.cells.toArray 47)).alloc (.cells #[.int .i64 0,.bool false,.int .u64 0,.int .u64 0,.bool false,.int .u64 0,.int .u64 0,.int .i64 0,.int .i64 0,.int .i64 0,.int .i64 0,.int .i64 0,.int .u64 0,.int .i64 0] 52)):=Aa (Aa (Below.refl _ _) _) _
 rw [World.size_alloc] at B2
 have h1:=hW.call hb0
 have GV:=Lib.hid fun (W:World) (hb:Below ((w.alloc (.cells t.cells.toArray 47)).alloc (.cells #[.int .i64 0,.bool false,.int .u64 0,.int .u64 0,.bool false,.int .u64 0,.int .u64 0,.int .i64 0,.int .i64 0,.int .i64 0,.int .i64 0,.int .i64 0,.int .u64 0,.int .i64 0] 52)).heap.size ((w.alloc (.cells t.cells.toArray 47)).alloc (.cells #[.int .i64 0,.bool false,.int .u64 0,.int .u64 0,.bool false,.int .u64 0,.int .u64 0,.int .i64 0,.int .i64 0,.int .i64 0,.int .i64 0,.int .i64 0,.int .u64 0,.int .i64 0] 52)) W)=>Dy g pb p q0 W (h1.call hb).read.c11 hW.p1
 clear hW
 go_enter Tryz.func17,Tryz.ntmps17
 go_upto_region 1 with fail
 change Code.wp _ _ _ _ ((w.alloc (.cells t.cells.toArray 47)).alloc (.cells #[.int .i64 0,.bool false,.int .u64 0,.int .u64 0,.bool false,.int .u64 0,.int .u64 0,.int .i64 0,.int .i64 0,.int .i64 0,.int .i64 0,.int .i64 0,.int .u64 0,.int .i64 0] 52))
 have hw1:((w.alloc (.cells t.cells.toArray 47)).alloc (.cells #[.int .i64 0,.bool false,.int .u64 0,.int .u64 0,.bool false,.int .u64 0,.int .u64 0,.int .i64 0,.int .i64 0,.int .i64 0,.int .i64 0,.int .i64 0,.int .u64 0,.int .i64 0] 52)).heap.size=w.heap.size+2:=by rw [World.size_alloc,World.size_alloc]
 generalize (w.alloc (.cells t.cells.toArray 47)).alloc (.cells #[.int .i64 0,.bool false,.int .u64 0,.int .u64 0,.bool false,.int .u64 0,.int .u64 0,.int .i64 0,.int .i64 0,.int .i64 0,.int .i64 0,.int .i64 0,.int .u64 0,.int .i64 0] 52)=w1 at *
 obtain ⟨rt,hrt⟩:∃ rt,w.heap.size=rt:=⟨_,rfl⟩
 rw [hrt] at B1 B2 hw1
 try rw [hrt]
 have hXrt:=Lib.hid (show ∀ y,X y→y<rt from fun y hy=>by have:=hlt y hy;omega)
 have hS1:FindAt g rt r.gn t w1:=⟨h1.read.c2,TupAt.of B1⟩
 have c0:=h1.read.c0
 have c1:=h1.read.c1
 have c3:=h1.read.c3
 have c4:=h1.read.c4
 obtain ⟨c2,t0,t1,t2,t3,t4,t5,t6,t7,t8⟩:=hS1
 replace h1:=Lib.hid h1
 replace B2:=Lib.hid B2
 have HT:=Lib.hid (show FindAt g rt r.gn t w1 from ⟨h1.out.read.c2,TupAt.of B1⟩)
 replace hfV:=Lib.hid hfV
 replace hfO:=Lib.hid hfO
 replace hfS:=Lib.hid hfS
 have FIN:=Lib.hid fun (W w3:World) (os:TSt) (hb:Below w1.heap.size w1 W) (hT:TabTo W w3 (gs (pIx r t)) (sbs (pIx r t)) n r.cfg os (Xs (pIx r t)))=>show Blk w3 (rt+1) 52 slt0.entA∧FindAt g rt r.gn t w3∧∀ x,EntAt (rt+1) x (Ac w3 (rt+1) x)∧D6 w (Ac w3 (rt+1) x) g r p n (updS S (pIx r t) os) X from by
  obtain ⟨Xs',X',k1,k2,k3⟩:=(h1.out.call hb).part hpl hT
  have hz:=hb.size
  have hX1:¬ X (rt+1):=fun e=>by have:=hXrt.out _ e;omega
  have hB3:Blk w3 (rt+1) 52 slt0.entA:=(B2.out.call hb).chg k2 hX1
  refine ⟨hB3,(HT.out.call hb).chg (Co hT) (fun e=>(h1.out.off _ hpl _ e).1 rfl) (fun e=>by have:=hXrt.out _ (h1.out.iX hpl _ e);omega),fun x=>?_⟩
  obtain ⟨e1,e2⟩:=Ab hB3 x
  have hn:¬ X' (rt+1):=fun e=>by
   rcases k3 _ e with h | h
   · exact hX1 h
   · omega
  have hkw:Chg X w w3:=((Chg.of_below hb0).trans (Chg.of_below (F:=X) hb) (fun _ _ h=>h)).trans k2 (fun _ _ h=>h)
  exact ⟨EntAt.of e1,X',⟨pb,q0,gs,sbs,Xs',k1.chg e2 fun y hy e=>by have e3:y=rt+1:=e;subst e3;exact hn hy⟩,hkw.trans e2 fun y hy e=>by have e3:y=rt+1:=e;omega,fun y hy=>(k3 y hy).imp id fun h=>by omega⟩
 clear B1 hlt hsl hgn hok
 obtain ⟨wd,hwd⟩:∃ k,r.wd=k:=⟨_,rfl⟩
 obtain ⟨ls,hls⟩:∃ k,r.sl=k:=⟨_,rfl⟩
 obtain ⟨lg,hlg⟩:∃ k,r.gn=k:=⟨_,rfl⟩
 obtain ⟨ka,hka⟩:∃ k,r.ka=k:=⟨_,rfl⟩
 obtain ⟨kb,hkb⟩:∃ k,r.kb=k:=⟨_,rfl⟩
 rw [hwd,hls,hlg,hka,hkb] at CO
 rw [hwd] at c0
 rw [hls] at c1
 rw [hlg] at c2
 rw [hka] at c3
 rw [hkb] at c4
 obtain ⟨ti,hti⟩:∃ k,t=k:=⟨_,rfl⟩
 obtain ⟨tp,v,hi,lo,v',hi',lo',sp,dp⟩:=ti
 rw [hti] at t0 t1 t2 t3 t4 t5 t6 t7 t8 CO
 replace hti:=Lib.hid hti
 go_upto_region 3 with (go_at_call 83;(with_reducible refine (GV.out _ (Below.refl _ _)).mono ?_);rintro e w2 ⟨rfl,rfl⟩)
 go_region_held3 (fun W=>Below w1.heap.size w1 W∧W.cell? ⟨g,0,none⟩=some (.bool wd)∧W.cell? ⟨g,1,none⟩=some (.int .i64 ls)∧W.cell? ⟨g,2,none⟩=some (.int .i64 lg)∧W.cell? ⟨g,3,none⟩=some (.int .u64 ka)∧W.cell? ⟨g,4,none⟩=some (.int .u64 kb)∧W.cell? ⟨rt,0,none⟩=some (.int .i64 tp)∧W.cell? ⟨rt,1,none⟩=some (.bool v)∧W.cell? ⟨rt,2,none⟩=some (.int .u64 hi)∧W.cell? ⟨rt,3,none⟩=some (.int .u64 lo)∧W.cell? ⟨rt,4,none⟩=some (.bool v')∧W.cell? ⟨rt,5,none⟩=some (.int .u64 hi')∧W.cell? ⟨rt,6,none⟩=some (.int .u64 lo')∧W.cell? ⟨rt,7,none⟩=some (.int .i64 sp)∧W.cell? ⟨rt,8,none⟩=some (.int .i64 dp))
  (first | assumption | exact ⟨(Below.refl _ _).drew,by refine ⟨?_,?_,?_,?_,?_,?_,?_,?_,?_,?_,?_,?_,?_,?_⟩ <;> assumption⟩) (first
  | (go_at_call 84;(with_reducible refine (CO.out _).mono ?_);rintro e w4 ⟨rfl,hb4⟩;have hk4:=DY (by assumption) hb4))
 have hb14:=hk4.1
 clear hk4 c0 c1 c2 c3 c4 t0 t1 t2 t3 t4 t5 t6 t7 t8 CO hwd hls hka hkb
 cases ok
 ·
  have BR:=B2.out.call hb14
  have e1:slt0=fV:=by simpa using hfV.out
  have e2:false=fO:=by simpa using hfO.out
  have e3:S (pIx r t)=fS:=by simpa using hfS.out
  subst e1
  subst e2
  subst e3
  have hTs:=Lib.hid (h1.out.call hb14)
  clear hfV hfO hfS
  go_wp2_with (with_reducible refine Ao (r:=rt+1) (z:=slt0) rfl rfl (.tmp 6) (.tmp 34) rfl BR slt0 rfl rfl ?_)
  change bodyPost _ _ _ _ _ (Ac w4 (rt+1) slt0)
  obtain ⟨e1,e2⟩:=Ab BR slt0
  generalize Ac w4 (rt+1) slt0=w6 at *
  have hT:D6 w w6 g r p n S X:=⟨X,⟨pb,q0,gs,sbs,Xs,hTs.out.chg e2 fun y hy e=>by have e3:y=rt+1:=e;have:=hXrt.out y hy;omega⟩,((Chg.of_below hb0).trans (Chg.of_below (F:=X) hb14) (fun _ _ h=>h)).trans e2 fun y hy e=>by have e3:y=rt+1:=e;omega,fun _ h=>.inl h⟩
  have hE6:=EntAt.of e1
  refine bodyPost_ret (v:=.tuple #[slt0.val,.bool false]) (Ew _ _ _ _ _ rfl rfl hE6) rfl ?_
  exact ⟨rfl,by rw [Dn];exact hT⟩
 ·
  obtain ⟨i,hi0⟩:∃ i,pIx r t=i:=⟨_,rfl⟩
  have OF:=Lib.hid fun (W:World) (hb:Below w1.heap.size w1 W)=>KH ((h1.out.call hb).read) t
  have TF:=Lib.hid fun (W:World) (hb:Below w1.heap.size w1 W)=>Rh ((h1.out.call hb).tab (pIx r t) hpl) t sl gn r.gn
  have e1:findV n (S (pIx r t)) t sl gn r.gn=fV:=by simpa using hfV.out
  have e2:Be n (S (pIx r t)) t sl gn r.gn=fO:=by simpa using hfO.out
  have e3:lookS n sl (S (pIx r t))=fS:=by simpa using hfS.out
  rw [e1,e2,e3] at TF
  have hSt:FindAt g rt r.gn t w4.drew:=(HT.out.call hb14).call (Below.refl _ _).drew
  have hd:Below w1.heap.size w1 w4.drew:=hb14.drew
  have hgr:=Lib.hid (show g≠rt+1 from fun e=>by have:=h1.out.blk.lt;have:=hXrt.out g h1.out.gX;omega)
  clear hfV hfO hfS e1 e2 e3 hlg hti hb4 GV B2 HT hXrt h1 hk
  obtain ⟨bg,hbg⟩:∃ bg,r.gn=bg:=⟨_,rfl⟩
  rw [hbg] at TF FIN hSt
  rw [hi0] at OF TF FIN
  clear hbg
  replace hi0:=Lib.hid hi0
  go_upto_region 6 with fail
  refine wp_region_held_drew (S:=FindAt g rt bg t) (by kernel_rfl) hSt (fun hHeld=>?_)
  generalize w4.drew=wq at *
  refine tq 0 ?_;try go_frame
  refine tq 1 ?_;try go_frame
  refine tq 3 ?_;try go_frame
  refine tq 4 ?_;try go_frame
  refine tq 5 ?_;try go_frame
  refine tq 6 ?_;try go_frame
  refine tq 7 ?_;try go_frame
  refine tq 8 ?_;try go_frame
  refine tq 9 ?_;try go_frame
  refine tq 10 ?_;try go_frame
  refine tq 11 ?_;try go_frame
  refine oneH 2 fun K hK=>?_
  go_simp
  (go_at_call 79;(with_reducible refine (OF.out _ hd).mono ?_))
  rintro e w5 ⟨rfl,hb5⟩
  refine hK.out _ _ (hHeld.call hb5) (fun hHeld=>?_)
  clear hK K
  try go_frame
  refine oneH 12 fun K hK=>?_
  go_simp
  (go_at_call 85;(with_reducible refine (TF.out _ (A8 hb5 hd)).mono ?_))
  rintro e w6 ⟨rfl,hT6⟩
  obtain ⟨f1,f2,f3⟩:=FIN.out w5 w6 _ (A8 hb5 hd) hT6
  replace f3:=Lib.hid (f3 fV)
  refine hK.out _ _ f2 (fun hHeld=>?_)
  clear hK K
  try go_frame
  refine tq 13 ?_;try go_frame
  refine tq 14 ?_;try go_frame
  refine oneH 15 fun K hK=>?_
  rw [if_pos (by rfl)]
  with_reducible refine Ae (r:=rt+1) (z:=slt0) (.tmp 6) (.tmp 48) rfl f1 fV rfl rfl ?_
  refine hK.out _ _ (hHeld.chg (Ab f1 fV).2 (fun e=>?_) (fun e=>by have e3:rt=rt+1:=e;omega)) (fun hHeld=>?_)
  · exact hgr.out e
  clear hK K
  try go_frame
  refine tq 16 ?_;try go_frame
  refine wpAnyH_done (by kernel_rfl) ?_ _
  generalize Ac w6 (rt+1) fV=w7 at *
  clear hHeld
  go_wp2_with fail
  refine bodyPost_ret (v:=.tuple #[fV.val,.bool fO]) (Ew _ _ _ _ _ rfl rfl f3.out.1) rfl ?_
  exact ⟨rfl,by rw [hi0.out];exact f3.out.2⟩
end
def Cv (r:TRule) (n:Nat) (s:TSt) (t:Tup) (k:Int):Bool:=Bp r n s t k && AG n (findSC r n s t k) (Cg r n s t k).sl
def CL (r:TRule) (n:Nat) (s:TSt) (t:Tup) (k fl:Int):Slt:=if Bp r n s t k then AO r.cfg n (findSC r n s t k) (Cg r n s t k).sl fl else slt0
def Bn (r:TRule) (n:Nat) (s:TSt) (t:Tup) (k fl:Int):TSt:=if Bp r n s t k then Bd r.cfg n (findSC r n s t k) (Cg r n s t k).sl fl else findSC r n s t k
theorem JT (S:Nat→TSt) (i:Nat) (a b:TSt):updS (updS S i a) i b=updS S i b:=by
 funext j
 unfold updS
 split <;> rfl
theorem TI.findSC {r:TRule} {n:Nat} {s:TSt} {t:Tup} {k:Int} (h:TI n s):TI n (Go.Proofs.YteklkljndchjiaaGreat.findSC r n s t k):=by
 unfold Go.Proofs.YteklkljndchjiaaGreat.findSC
 split
 · exact h.look _
 · exact h
theorem Fk (F:Array Value) (q:Nat) (x:Slt) (o:Bool) (W:World) (h8:F[8]?=some (.pointer (some ⟨q,0,none⟩))) (h9:F[9]?=some (.bool o)) (hE:EntAt q x W):Sem.run Tryz.prog (results Tryz.f19 F) W=.ok (.tuple #[x.val,.bool o]) W:=by
 obtain ⟨r0,r1,r2,r3,r4,r5,r6,r7,r8,r9,r10,r11,r12,r13⟩:=hE
 simp [results,Tryz.results19,go_sem,h8,h9,r0,r1,r2,r3,r4,r5,r6,r7,r8,r9,r10,r11,r12,r13]
@[reducible] def TouchAt (rq rt:Nat) (es:Int) (t:Tup) (W:World):Prop:=W.cell? ⟨rq,11,none⟩=some (.int .i64 es)∧W.cell? ⟨rt,0,none⟩=some (.int .i64 t.p)∧W.cell? ⟨rt,1,none⟩=some (.bool t.v)∧W.cell? ⟨rt,2,none⟩=some (.int .u64 t.hi)∧W.cell? ⟨rt,3,none⟩=some (.int .u64 t.lo)∧W.cell? ⟨rt,4,none⟩=some (.bool t.v')∧W.cell? ⟨rt,5,none⟩=some (.int .u64 t.hi')∧W.cell? ⟨rt,6,none⟩=some (.int .u64 t.lo')∧W.cell? ⟨rt,7,none⟩=some (.int .i64 t.sp)∧W.cell? ⟨rt,8,none⟩=some (.int .i64 t.dp)
theorem TouchAt.chg {rq rt:Nat} {es:Int} {t:Tup} {W W':World} {F:Nat→Prop} (h:TouchAt rq rt es t W) (hc:Chg F W W') (hg:¬ F rq) (hF:¬ F rt):TouchAt rq rt es t W' :=
 ⟨(Af hc (A0 h.1) hg).trans h.1,TupAt.chg h.2 hc hF⟩
theorem TouchAt.call {rq rt:Nat} {es:Int} {t:Tup} {W W':World} (h:TouchAt rq rt es t W) (hb:Below W.heap.size W W'):TouchAt rq rt es t W':=h.chg (F:=fun _=>False) (Chg.of_below hb) (fun h=>h) (fun h=>h)
section
variable {w w':World} {g p n:Nat} {r:TRule} {S:Nat→TSt} {X F:Nat→Prop}
set_option maxRecDepth 100000 in
set_option maxHeartbeats 8000000 in
theorem NT (h:TabsP w g r p n S X) (hTI:∀ i,i<p→TI n (S i)) (hR:r.cfg.right) (t:Tup) (k:Nat) (hk:k<18446744073709551616) (fl:Int) :
  Calls Tryz.prog 19 #[.pointer (some ⟨g,0,none⟩),t.val,.int .u64 (k:Int),.int .i64 fl] w fun e w'=>e=.returned (.tuple #[(CL r n (S (pIx r t)) t k fl).val,.bool (Cv r n (S (pIx r t)) t k)])∧D6 w w' g r p n (updS S (pIx r t) (Bn r n (S (pIx r t)) t k fl)) X:=by
 have hlt:=fun y (hy:X y)=>h.lt hy
 obtain ⟨hnp,hp1,hp16⟩:=h.rng
 obtain ⟨-,hpl⟩:=Eu r t hnp hp1 hp16
 have hti:=hTI _ hpl
 have htf:TI n (findSC r n (S (pIx r t)) t k):=hti.findSC
 obtain ⟨tV,hfV⟩:∃ v,CL r n (S (pIx r t)) t k fl=v:=⟨_,rfl⟩
 obtain ⟨tO,hfO⟩:∃ v,Cv r n (S (pIx r t)) t k=v:=⟨_,rfl⟩
 obtain ⟨tS,hfS⟩:∃ v,Bn r n (S (pIx r t)) t k fl=v:=⟨_,rfl⟩
 rw [hfV,hfO,hfS]
 unfold CL at hfV
 unfold Cv at hfO
 unfold Bn at hfS
 have B1:=(Blk.new w 47 t.cells.toArray).alloc (.cells #[.int .i64 0,.bool false,.int .u64 0,.int .u64 0,.bool false,.int .u64 0,.int .u64 0,.int .i64 0,.int .i64 0,.int .i64 0,.int .i64 0,.int .i64 0,.int .u64 0,.int .i64 0] 52)
 have B2:Blk ((w.alloc (.cells t.cells.toArray 47)).alloc (.cells #[.int .i64 0,.bool false,.int .u64 0,.int .u64 0,.bool false,.int .u64 0,.int .u64 0,.int .i64 0,.int .i64 0,.int .i64 0,.int .i64 0,.int .i64 0,.int .u64 0,.int .i64 0] 52)) (w.alloc (.cells t.cells.toArray 47)).heap.size 52 slt0.entA:=Blk.new (w.alloc (.cells t.cells.toArray 47)) 52 slt0.entA
 have hb0:Below w.heap.size w ((w.alloc (.cells t.cells.toArray 47)).alloc (.cells #[.int .i64 0,.bool false,.int .u64 0,.int .u64 0,.bool false,.int .u64 0,.int .u64 0,.int .i64 0,.int .i64 0,.int .i64 0,.int .i64 0,.int .i64 0,.int .u64 0,.int .i64 0] 52)):=Aa (Aa (Below.refl _ _) _) _
 rw [World.size_alloc] at B2
 have FD:=Lib.hid (JS (h.call hb0) t k hk)
 obtain ⟨eV,heV⟩:∃ v,Cg r n (S (pIx r t)) t k=v:=⟨_,rfl⟩
 obtain ⟨eO,heO⟩:∃ v,Bp r n (S (pIx r t)) t k=v:=⟨_,rfl⟩
 obtain ⟨eS,heS⟩:∃ v,findSC r n (S (pIx r t)) t k=v:=⟨_,rfl⟩
 rw [heV,heO,heS] at FD
 rw [heV,heO,heS] at hfV hfO hfS
 rw [heS] at htf
 clear heV heO heS hTI hti hp1 hp16 hnp h
 go_enter Tryz.func19,Tryz.ntmps19
 go_upto_region 1 with fail
 change Code.wp _ _ _ _ ((w.alloc (.cells t.cells.toArray 47)).alloc (.cells #[.int .i64 0,.bool false,.int .u64 0,.int .u64 0,.bool false,.int .u64 0,.int .u64 0,.int .i64 0,.int .i64 0,.int .i64 0,.int .i64 0,.int .i64 0,.int .u64 0,.int .i64 0] 52))
 have hw1:((w.alloc (.cells t.cells.toArray 47)).alloc (.cells #[.int .i64 0,.bool false,.int .u64 0,.int .u64 0,.bool false,.int .u64 0,.int .u64 0,.int .i64 0,.int .i64 0,.int .i64 0,.int .i64 0,.int .i64 0,.int .u64 0,.int .i64 0] 52)).heap.size=w.heap.size+2:=by rw [World.size_alloc,World.size_alloc]
 generalize (w.alloc (.cells t.cells.toArray 47)).alloc (.cells #[.int .i64 0,.bool false,.int .u64 0,.int .u64 0,.bool false,.int .u64 0,.int .u64 0,.int .i64 0,.int .i64 0,.int .i64 0,.int .i64 0,.int .i64 0,.int .u64 0,.int .i64 0] 52)=w1 at *
 obtain ⟨rt,hrt⟩:∃ rt,w.heap.size=rt:=⟨_,rfl⟩
 rw [hrt] at B1 B2 hw1
 try rw [hrt]
 have hXrt:=Lib.hid (show ∀ y,X y→y<rt from fun y hy=>by have:=hlt y hy;omega)
 have HT:=Lib.hid (show TupAt rt t w1 from TupAt.of B1)
 obtain ⟨t0,t1,t2,t3,t4,t5,t6,t7,t8⟩:=HT.out
 obtain ⟨i,hpi⟩:∃ i,pIx r t=i:=⟨_,rfl⟩
 rw [hpi] at FD hpl
 try rw [hpi]
 replace B2:=Lib.hid B2
 replace hfV:=Lib.hid hfV
 replace hfO:=Lib.hid hfO
 replace hfS:=Lib.hid hfS
 replace htf:=Lib.hid htf
 replace hR:=Lib.hid hR
 replace hpi:=Lib.hid hpi
 clear B1 hlt hk
 go_upto_region 2 with (go_at_call 17;(with_reducible refine FD.out.mono ?_);rintro e w2 ⟨rfl,hT2⟩;clear t0 t1 t2 t3 t4 t5 t6 t7 t8;replace hT2:=Lib.hid hT2)
 change Code.wp _ _ _ _ (w2.alloc (.cells eV.entA 52))
 obtain ⟨X2,hP2,hc2,hn2⟩:=hT2.out
 have hba:Below w2.heap.size w2 (w2.alloc (.cells eV.entA 52)):=Aa (Below.refl _ _) _
 have hX2:=fun y (hy:X2 y)=>hP2.lt hy
 have hz2:=hc2.size
 have hrq:rt+2≤w2.heap.size:=by omega
 have hX0:¬ X rt:=fun e=>by have:=hXrt.out _ e;omega
 have hX1:¬ X (rt+1):=fun e=>by have:=hXrt.out _ e;omega
 have hP3:TabsP (w2.alloc (.cells eV.entA 52)) g r p n (updS S i eS) X2:=hP2.call hba
 have hB3:Blk (w2.alloc (.cells eV.entA 52)) (rt+1) 52 slt0.entA:=(B2.out.chg hc2 hX1).call hba
 have HT3:=Lib.hid (show TupAt rt t (w2.alloc (.cells eV.entA 52)) from (HT.out.chg hc2 hX0).call hba)
 have hk3:Chg X w (w2.alloc (.cells eV.entA 52)):=((Chg.of_below hb0).trans hc2 (fun _ _ h=>h)).trans (Chg.of_below (F:=X) hba) (fun _ _ h=>h)
 have hn3:∀ y,X2 y→X y∨w.heap.size≤y:=fun y hy=>(hn2 y hy).imp id fun h=>by omega
 have hXx:∀ y,X2 y→y≠rt∧y≠rt+1:=fun y hy=>by
  rcases hn2 y hy with h | h
  ·
   have:=hXrt.out _ h
   omega
  · omega
 have hE3:=EntAt.of (Blk.new w2 52 eV.entA)
 have hz3:rt+2≤w2.heap.size∧(w2.alloc (.cells eV.entA 52)).heap.size=w2.heap.size+1:=⟨hrq,World.size_alloc _ _⟩
 clear hT2 HT hba hP2 hc2 hn2 hz2 B2 FD hrq
 obtain ⟨rq,hq⟩:∃ q,w2.heap.size=q:=⟨_,rfl⟩
 rw [hq] at hE3 hz3 hX2
 try rw [hq]
 generalize w2.alloc (.cells eV.entA 52)=w3 at *
 clear hq
 replace hE3:=Lib.hid hE3
 replace hP3:=Lib.hid hP3
 cases eO
 ·
  have e1:slt0=tV:=by simpa using hfV.out
  have e2:false=tO:=by simpa using hfO.out
  have e3:eS=tS:=by simpa using hfS.out
  subst e1
  subst e2
  subst e3
  clear hfV hfO hfS
  go_wp2_with (with_reducible refine Ao (r:=rt+1) (z:=slt0) rfl rfl (.tmp 8) (.tmp 21) rfl hB3 slt0 rfl rfl ?_)
  change bodyPost _ _ _ _ _ (Ac w3 (rt+1) slt0)
  obtain ⟨e1,e2⟩:=Ab hB3 slt0
  generalize Ac w3 (rt+1) slt0=w6 at *
  have hT:D6 w w6 g r p n (updS S i eS) X:=⟨X2,hP3.out.chg e2 fun y hy e=>by
   have e3:y=rt+1:=e
   exact (hXx y hy).2 e3,hk3.trans e2 fun y hy e=>by have e3:y=rt+1:=e;omega,hn3⟩
  have hE6:=EntAt.of e1
  refine bodyPost_ret (v:=.tuple #[slt0.val,.bool false]) (Fk _ _ _ _ _ rfl rfl hE6) rfl ?_
  exact ⟨rfl,by rw [hpi.out];exact hT⟩
 ·
  have e1:AO r.cfg n eS eV.sl fl=tV:=by simpa using hfV.out
  have e2:AG n eS eV.sl=tO:=by simpa using hfO.out
  have e3:Bd r.cfg n eS eV.sl fl=tS:=by simpa using hfS.out
  obtain ⟨pb,q0,gs,sbs,Xs,h3⟩:=hP3.out
  have h3i:=h3.tab i hpl
  rw [Bm] at h3i
  have OF:=Lib.hid fun (W:World) (hb:Below w3.heap.size w3 W)=>KH ((h3.call hb).read) t
  rw [hpi.out] at OF
  have TF:=Lib.hid fun (W:World) (hb:Below w3.heap.size w3 W)=>Q7 (h3i.chg (Chg.of_below (F:=fun _=>False) hb) (fun _ _ h=>h)) htf.out.sl (htf.out.mlen5 (EL h3i)) hR.out eV.sl fl
  rw [e1,e2,e3] at TF
  have hSt:TouchAt rq rt eV.sl t w3.drew:=⟨hE3.out.2.2.2.2.2.2.2.2.2.2.2.1,HT3.out⟩
  have hd:Below w3.heap.size w3 w3.drew:=(Below.refl _ _).drew
  have FIN:=Lib.hid fun (W w4:World) (hb:Below w3.heap.size w3 W) (hT:TabTo W w4 (gs i) (sbs i) n r.cfg tS (Xs i))=>show Blk w4 (rt+1) 52 slt0.entA∧TouchAt rq rt eV.sl t w4∧∀ x,EntAt (rt+1) x (Ac w4 (rt+1) x)∧D6 w (Ac w4 (rt+1) x) g r p n (updS S i tS) X from by
   obtain ⟨Xs',X',k1,k2,k3⟩:=(h3.call hb).part hpl hT
   rw [JT] at k1
   have hz:=hb.size
   have hnX:¬ X2 (rt+1):=fun e=>(hXx _ e).2 rfl
   have hB4:Blk w4 (rt+1) 52 slt0.entA:=(hB3.call hb).chg k2 hnX
   refine ⟨hB4,((show TouchAt rq rt eV.sl t w3 from hSt).call hb).chg (Co hT) (fun e=>by have:=hX2 _ (h3.iX hpl _ e);omega) (fun e=>(hXx _ (h3.iX hpl _ e)).1 rfl),fun x=>?_⟩
   obtain ⟨e1,e2⟩:=Ab hB4 x
   have hn:¬ X' (rt+1):=fun e=>by
    rcases k3 _ e with h | h
    · exact hnX h
    · omega
   have hkw:Chg X w w4:=(hk3.trans (Chg.of_below (F:=X) hb) (fun _ _ h=>h)).trans k2 fun y hy e=>by
    rcases hn3 y e with h | h
    · exact h
    · omega
   exact ⟨EntAt.of e1,X',⟨pb,q0,gs,sbs,Xs',k1.chg e2 fun y hy e=>by have e3:y=rt+1:=e;subst e3;exact hn hy⟩,hkw.trans e2 fun y hy e=>by have e3:y=rt+1:=e;omega,fun y hy=>(k3 y hy).elim (fun h=>hn3 y h) fun h=>.inr (by omega)⟩
  have hrq2:=Lib.hid hz3.1
  clear hfV hfO hfS e1 e2 e3 h3i h3 hP3 hE3 HT3 hB3 hk3 hn3 hXx hX2 hX0 hX1 htf hR hz3 hXrt hw1 hb0
  obtain ⟨es,hes⟩:∃ k,eV.sl=k:=⟨_,rfl⟩
  rw [hes] at hSt TF FIN
  clear hes
  go_upto_region 4 with fail
  refine wp_region_held_drew (S:=TouchAt rq rt es t) (by kernel_rfl) hSt (fun hHeld=>?_)
  generalize w3.drew=wq at *
  refine tq 0 ?_;try go_frame
  refine tq 1 ?_;try go_frame
  refine tq 3 ?_;try go_frame
  refine tq 4 ?_;try go_frame
  refine tq 5 ?_;try go_frame
  refine oneH 2 fun K hK=>?_
  go_simp
  (go_at_call 79;(with_reducible refine (OF.out _ hd).mono ?_))
  rintro e w5 ⟨rfl,hb5⟩
  refine hK.out _ _ (hHeld.call hb5) (fun hHeld=>?_)
  clear hK K
  try go_frame
  refine oneH 6 fun K hK=>?_
  go_simp
  (go_at_call 88;(with_reducible refine (TF.out _ (A8 hb5 hd)).mono ?_))
  rintro e w6 ⟨rfl,hT6⟩
  obtain ⟨f1,f2,f3⟩:=FIN.out w5 w6 (A8 hb5 hd) hT6
  replace f3:=Lib.hid (f3 tV)
  refine hK.out _ _ f2 (fun hHeld=>?_)
  clear hK K
  try go_frame
  refine tq 7 ?_;try go_frame
  refine tq 8 ?_;try go_frame
  refine oneH 9 fun K hK=>?_
  rw [if_pos (by rfl)]
  with_reducible refine Ae (r:=rt+1) (z:=slt0) (.tmp 8) (.tmp 29) rfl f1 tV rfl rfl ?_
  refine hK.out _ _ (hHeld.chg (Ab f1 tV).2 (fun e=>?_) (fun e=>by have e3:rt=rt+1:=e;omega)) (fun hHeld=>?_)
  ·
   have e3:rq=rt+1:=e
   have:=hrq2.out
   omega
  clear hK K
  try go_frame
  refine tq 10 ?_;try go_frame
  refine wpAnyH_done (by kernel_rfl) ?_ _
  generalize Ac w6 (rt+1) tV=w7 at *
  clear hHeld
  go_wp2_with fail
  refine bodyPost_ret (v:=.tuple #[tV.val,.bool tO]) (Fk _ _ _ _ _ rfl rfl f3.out.1) rfl ?_
  exact ⟨rfl,by rw [hpi.out];exact f3.out.2⟩
end
end Go.Proofs.YteklkljndchjiaaGreat
