/- stateful: the law StatefulPlays, called: a step that finds. stateful: the law StatefulPlays, called: a step that opens. stateful: the law StatefulPlays, called: what is told behind a step. stateful: StatefulPlays where it has nothing to do, and where no keepers are made. stateful: the law StatefulPlays, called. -/
import Derived.Test.YteklkljndchjiaaGreatJ59
import Derived.Test.YteklkljndchjiaaGreatJ56
import Derived.Test.YteklkljndchjiaaGreatJ55
import Derived.Test.YteklkljndchjiaaGreatJ43
import Derived.Test.YteklkljndchjiaaGreatJ34
import Derived.Test.YteklkljndchjiaaGreatJ4
import Derived.Test.YteklkljndchjiaaGreatJ53
import Derived.Test.YteklkljndchjiaaGreatJ9
import Derived.Test.YteklkljndchjiaaGreatJ54
import Derived.Deep.CutRange
import Derived.Deep.CutBlock
import Derived.Deep.LoopGhost
import Derived.Deep.RegionHeld3
namespace Go.Proofs.YteklkljndchjiaaGreat
open Go Go.RowKit Go.Deep Go.Maps Go.ChangeMaps
section
variable {w w':World} {X:Nat→Prop} {k:DKPtr} {r:KRule} {s:KSt}
theorem J5 (hI:KI r s) (h:Ag k r s w X) (t:Tup) (ht:tupWf t) (n:Nat) (hn64:n<18446744073709551616) :
  Calls Tryz.prog 18 #[ptr0 (k.gb (isT t)),t.val,.int .u64 (n:Int)] w fun e w'=>e=.returned (.tuple #[(H0 r s t n).val,.bool (FO r s t n)])∧(Ag k r (kFind r s t n)).To w w' X:=by
 obtain ⟨X1,k1,-,k2⟩:=Dq (isT t) h
 refine (Gt k1 (hI.lk (isT t)).ti t ht n hn64).mono ?_
 rintro e w' ⟨rfl,hT⟩
 exact ⟨rfl,k2 _ _ hT⟩
end
@[reducible] def TuA9 (q:Nat) (t:Tup) (W:World):Prop:=W.cell? ⟨q,1,none⟩=some (.int .i64 t.p)∧W.cell? ⟨q,2,none⟩=some (.bool t.v)∧W.cell? ⟨q,3,none⟩=some (.int .u64 t.hi)∧W.cell? ⟨q,4,none⟩=some (.int .u64 t.lo)∧W.cell? ⟨q,5,none⟩=some (.bool t.v')∧W.cell? ⟨q,6,none⟩=some (.int .u64 t.hi')∧W.cell? ⟨q,7,none⟩=some (.int .u64 t.lo')∧W.cell? ⟨q,8,none⟩=some (.int .i64 t.sp)∧W.cell? ⟨q,9,none⟩=some (.int .i64 t.dp)
theorem TuA9.chg {q:Nat} {t:Tup} {W W':World} {F:Nat→Prop} (h:TuA9 q t W) (c:Chg F W W') (hF:¬ F q):TuA9 q t W':=by
 obtain ⟨h0,h1,h2,h3,h4,h5,h6,h7,h8⟩:=h
 exact ⟨(Af c (A0 h0) hF).trans h0,(Af c (A0 h1) hF).trans h1,(Af c (A0 h2) hF).trans h2,(Af c (A0 h3) hF).trans h3,(Af c (A0 h4) hF).trans h4,(Af c (A0 h5) hF).trans h5,(Af c (A0 h6) hF).trans h6,(Af c (A0 h7) hF).trans h7,(Af c (A0 h8) hF).trans h8⟩
theorem TuA9.call {q:Nat} {t:Tup} {W W':World} (h:TuA9 q t W) (hb:Below W.heap.size W W'):TuA9 q t W':=h.chg (F:=fun _=>False) (Chg.of_below hb) (fun h=>h)
theorem Ej {s:KSt} {r:KRule} {dk:DKPtr} {w w':World} {X:Nat→Prop} (t:(Ag dk r s).To w w' X):Chg X w w':=by
 obtain ⟨X',-,c,-⟩:=t
 exact c
set_option maxRecDepth 100000 in
set_option maxHeartbeats 64000000 in
theorem Dc:Ei.2.1:=by
 intro r _ _ w _ _ _ _ hy _ _ _ _ _ _ _ _ _ w4 _ k _ _ dk _ _ _ _ _ _ _ _ _ _ _ _ _ _ _ _ _ _ u64 _ _ _ _ _ _ _ _ _ _ _ _ _ _ _ _ _ _ _ _ _ _ _ _ _ _ _ _ _ _ _ _ _ _ _ _ _ _ _ _ _ _ _ _ _ _ _ _ _ _ _ _ _ _ _ _ _ _ _ _ _ _ _ _ _ _ _ _ _ _ _ _ _ _ _ _ _ _ _ _ _ _ _ _ _ _ _ _ _ _ _ _ _ _ _ _ _ _ _ _ _ _ _ _ _ _ _ _ _ _ _ _ _ _ _ _ _ _ _ _ _ _ _ _ _ _ _ _ _ _ _ _ _ _ _ _ _ _ _ _ _ _ _ _ _ _ _ _ _ _ _ _ _ _ _ _ _ _ _ _ _ _ _ _ _ _ _ _ _ _ _ _ _ _ _ _ _ _ _ _ _ _ _ _ _ _ _ _ _ _ _ _ _ _ _ _ _ _ _ _ _ _ _ _ _ _ _ _ _ _ _ _ _ _ _ _ _ _ _ _ _ _ _ _ _ _ _ _ _ _ _ _ _ _ _ _ A q cs s _ Y _ _ _ _ st _ _ _ _ hwfs _ _ rs _ hrlt _ _ _ _ ck hck w7 _ _ Sb7 s0 _ _ _ _ _ _ hT7 hO7 hrg hcl7 _ FIN _ _ _
 have s1:w7.cell? ⟨rs,1,none⟩=some (.int .i64 st.tu.p):=Sb7.cell 1
 have s2:w7.cell? ⟨rs,2,none⟩=some (.bool st.tu.v):=Sb7.cell 2
 have s3:w7.cell? ⟨rs,3,none⟩=some (.int .u64 st.tu.hi):=Sb7.cell 3
 have s4:w7.cell? ⟨rs,4,none⟩=some (.int .u64 st.tu.lo):=Sb7.cell 4
 have s5:w7.cell? ⟨rs,5,none⟩=some (.bool st.tu.v'):=Sb7.cell 5
 have s6:w7.cell? ⟨rs,6,none⟩=some (.int .u64 st.tu.hi'):=Sb7.cell 6
 have s7:w7.cell? ⟨rs,7,none⟩=some (.int .u64 st.tu.lo'):=Sb7.cell 7
 have s8:w7.cell? ⟨rs,8,none⟩=some (.int .i64 st.tu.sp):=Sb7.cell 8
 have s9:w7.cell? ⟨rs,9,none⟩=some (.int .i64 st.tu.dp):=Sb7.cell 9
 have s10:w7.cell? ⟨rs,10,none⟩=some (.int .i64 st.n):=Sb7.cell 10
 have s11:w7.cell? ⟨rs,11,none⟩=some (.int .i64 st.bk):=Sb7.cell 11
 have K1:=K0 hT7.out.k1 hT7.out.o1 st.tu ck hck
 have hI1:=hT7.out.k1.find (t:=st.tu) ck
 obtain ⟨fV,hfV⟩:∃ v,H0 r s st.tu ck=v:=⟨_,rfl⟩
 rw [hfV] at K1
 replace hfV:=Lib.hid hfV
 obtain ⟨fo,hfo⟩:∃ v,FO r s st.tu ck=v:=⟨_,rfl⟩
 rw [hfo] at K1
 replace hfo:=Lib.hid hfo
 obtain ⟨sx,hsx⟩:∃ v,kFind r s st.tu ck=v:=⟨_,rfl⟩
 rw [hsx] at K1
 rw [hsx] at hI1
 replace hsx:=Lib.hid hsx
 replace K1:=Lib.hid K1
 replace hI1:=Lib.hid hI1
 go_upto_region 23 with (go_at_call 46;(with_reducible refine K1.out.mono ?_);rintro e v1 ⟨rfl,T1⟩)
 change Code.wp _ _ _ _ (v1.alloc (.cells fV.entA 52))
 obtain ⟨X1,L1,d1⟩:=hT7.out.code hI1.out T1
 have BA:=Blk.new v1 52 fV.entA
 have hbA:=Aa (Below.refl v1.heap.size v1) (.cells fV.entA 52)
 have hzA:(v1.alloc (.cells fV.entA 52)).heap.size=v1.heap.size+1:=World.size_alloc _ _
 have L2:=L1.made (Z:=fun y=>y=v1.heap.size) hbA (fun y hy=>by omega)
 have P2:=(Sb7.chg d1 (fun h=>hrlt _ h rfl)).call hbA
 have O2:=(OwnA.chg hO7.out d1 (fun b hb e=>(hT7.out.kk b (.inl hb)).1 e)).call hbA
 generalize v1.alloc (.cells fV.entA 52)=v2 at *
 obtain ⟨ra,hra⟩:∃ r,v1.heap.size=r:=⟨_,rfl⟩
 rw [hra] at BA L2
 try rw [hra]
 clear s0 s1 s2 s3 s4 s5 s6 s7 s8 s9 s10 s11 K1 T1 d1
 have s1:v2.cell? ⟨rs,1,none⟩=some (.int .i64 st.tu.p):=P2.cell 1
 have s2:v2.cell? ⟨rs,2,none⟩=some (.bool st.tu.v):=P2.cell 2
 have s3:v2.cell? ⟨rs,3,none⟩=some (.int .u64 st.tu.hi):=P2.cell 3
 have s4:v2.cell? ⟨rs,4,none⟩=some (.int .u64 st.tu.lo):=P2.cell 4
 have s5:v2.cell? ⟨rs,5,none⟩=some (.bool st.tu.v'):=P2.cell 5
 have s6:v2.cell? ⟨rs,6,none⟩=some (.int .u64 st.tu.hi'):=P2.cell 6
 have s7:v2.cell? ⟨rs,7,none⟩=some (.int .u64 st.tu.lo'):=P2.cell 7
 have s8:v2.cell? ⟨rs,8,none⟩=some (.int .i64 st.tu.sp):=P2.cell 8
 have s9:v2.cell? ⟨rs,9,none⟩=some (.int .i64 st.tu.dp):=P2.cell 9
 have s10:v2.cell? ⟨rs,10,none⟩=some (.int .i64 st.n):=P2.cell 10
 have s11:v2.cell? ⟨rs,11,none⟩=some (.int .i64 st.bk):=P2.cell 11
 have K2:=J5 L2.k2 L2.o2 st.tu hwfs.out.2 ck hck
 rw [hfV.out,hfo.out,hsx.out] at K2
 replace K2:=Lib.hid K2
 replace BA:=Lib.hid BA
 replace O2:=Lib.hid O2
 replace P2:=Lib.hid P2
 replace L2:=Lib.hid L2
 clear L1 hbA hzA
 have OF:=Lib.hid fun (W:World) (hb:Below v2.heap.size v2 W)=>Gx (L2.out.call hb).o2 st.tu.p
 have FD:=Lib.hid fun (W:World) (hb:Below v2.heap.size v2 W)=>show Calls Tryz.prog 18 #[ptr0 (dk.gb (st.tu.p==6)),st.tu.val,.int .u64 (ck:Int)] W fun e w'=>e=.returned (.tuple #[fV.val,.bool fo])∧(Ag dk r sx).To W w' Y from by
  have:=J5 (L2.out.call hb).k2 (L2.out.call hb).o2 st.tu hwfs.out.2 ck hck
  rw [hfV.out,hfo.out,hsx.out] at this
  exact this
 have hYs:¬ Y rs:=(L2.out.kk rs (.inl (.inr rfl))).2.1
 have hrs2:rs<v2.heap.size:=(L2.out.kk rs (.inl (.inr rfl))).2.2
 have hd:Below v2.heap.size v2 v2.drew:=(Below.refl _ _).drew
 have hzd:v2.drew.heap.size=v2.heap.size:=rfl
 have hS0:TuA9 rs st.tu v2.drew:=⟨s1,s2,s3,s4,s5,s6,s7,s8,s9⟩
 clear s1 s2 s3 s4 s5 s6 s7 s8 s9 s10 s11 K2
 go_cut [20,21] from 158 to 169 (fun x20 x21 wx=>∃ rc Y1,x20=.pointer (some ⟨rc,0,none⟩)∧x21=.bool fo∧LT w4 wx k dk r sx sx X1 Y1 (fun y=>(InB A y∨y=rs)∨y=ra)∧Blk wx ra 52 fV.entA∧Blk wx rc 52 fV.entA∧OwnU wx w4.heap.size A q cs)
 case first =>
  refine wp_region_held_drew (S:=TuA9 rs st.tu) (by kernel_rfl) hS0 (fun hHeld=>?_)
  generalize v2.drew=wd at *
  refine tq 0 ?_;try go_frame
  refine tq 1 ?_;try go_frame
  refine tq 2 ?_;try go_frame
  refine tq 3 ?_;try go_frame
  refine tq 5 ?_;try go_frame
  refine tq 6 ?_;try go_frame
  refine tq 7 ?_;try go_frame
  refine wpAnyH_ready (rs:=[4,12]) (by kernel_rfl) (by simp) ?_;refine consH rfl (fun K hK=>?_) (consH rfl (fun K hK=>?_) AllReadyH.nil)
  ·
   go_simp
   (go_at_call 47;(with_reducible refine (OF.out _ hd).mono ?_))
   rintro e w2x ⟨rfl,hb2⟩
   refine hK.out _ _ (hHeld.call hb2) (fun hHeld=>?_)
   clear hK K
   try go_frame
   have hbd2:=A8 hb2 hd
   have hz2:=hb2.size
   refine wpAnyH_ready (rs:=[8,12]) (by kernel_rfl) (by simp) ?_;refine consH rfl (fun K hK=>?_) (consH rfl (fun K hK=>?_) AllReadyH.nil)
   ·
    go_simp
    (go_at_call 18;(with_reducible refine (FD.out _ hbd2).mono ?_))
    rintro e w3x ⟨rfl,T3⟩
    refine hK.out _ _ (hHeld.chg (Ej T3) hYs) (fun hHeld=>?_)
    clear hK K
    try go_frame
    refine tq 9 ?_;try go_frame
    refine tq 10 ?_;try go_frame
    refine tq 11 ?_;try go_frame
    have hz3:=(Ej T3).size
    refine oneH 12 fun K hK=>?_
    go_simp
    refine hK.out _ _ (hHeld.call (Aa (Below.refl _ _) _)) (fun hHeld=>?_)
    clear hK K
    try go_frame
    refine oneH 13 fun K hK=>?_
    rw [if_pos (by rfl)]
    have BQ:Blk (w3x.alloc (.cells #[.int .i64 0,.bool false,.int .u64 0,.int .u64 0,.bool false,.int .u64 0,.int .u64 0,.int .i64 0,.int .i64 0,.int .i64 0,.int .i64 0,.int .i64 0,.int .u64 0,.int .i64 0] 52)) w3x.heap.size 52 slt0.entA:=Blk.new w3x 52 slt0.entA
    with_reducible refine Ae (r:=w3x.heap.size) (z:=slt0) (.tmp 20) (.tmp 168) rfl BQ fV rfl rfl ?_
    refine hK.out _ _ (hHeld.chg (Ab BQ fV).2 (fun e=>by have e2:rs=w3x.heap.size:=e;omega)) (fun hHeld=>?_)
    clear hK K
    try go_frame
    refine tq 14 ?_;try go_frame
    refine wpAnyH_done (by kernel_rfl) ?_ _
    obtain ⟨Y1,F1,M1,M2,M3,M4⟩:=L2.out.found (ov:=fV) hI1.out hbd2 T3 (Aa (Below.refl _ _) _) (by omega) (.inr (Nat.le_refl _)) BQ
    replace M1:=Lib.hid M1
    replace M4:=Lib.hid M4
    generalize Ac (w3x.alloc (.cells #[.int .i64 0,.bool false,.int .u64 0,.int .u64 0,.bool false,.int .u64 0,.int .u64 0,.int .i64 0,.int .i64 0,.int .i64 0,.int .i64 0,.int .i64 0,.int .u64 0,.int .i64 0] 52)) w3x.heap.size fV=w9x at *
    go_wp2_with fail
    go_meet
    exact ⟨_,Y1,rfl,rfl,M1.out,BA.out.chg M3 (M4.out ra (.inr rfl)),M2,OwnA.chg O2.out M3 (fun b hb=>M4.out b (.inl (.inl hb)))⟩
   ·
    go_simp
    refine hK.out _ _ (hHeld.call (Aa (Below.refl _ _) _)) (fun hHeld=>?_)
    clear hK K
    try go_frame
    have hba:=Aa (Below.refl w2x.heap.size w2x) (.cells #[.int .i64 0,.bool false,.int .u64 0,.int .u64 0,.bool false,.int .u64 0,.int .u64 0,.int .i64 0,.int .i64 0,.int .i64 0,.int .i64 0,.int .i64 0,.int .u64 0,.int .i64 0] 52)
    have hza:(w2x.alloc (.cells #[.int .i64 0,.bool false,.int .u64 0,.int .u64 0,.bool false,.int .u64 0,.int .u64 0,.int .i64 0,.int .i64 0,.int .i64 0,.int .i64 0,.int .i64 0,.int .u64 0,.int .i64 0] 52)).heap.size=w2x.heap.size+1:=World.size_alloc _ _
    refine oneH 8 fun K hK=>?_
    go_simp
    (go_at_call 18;(with_reducible refine (FD.out _ (A8 hba hbd2)).mono ?_))
    rintro e w3x ⟨rfl,T3⟩
    refine hK.out _ _ (hHeld.chg (Ej T3) hYs) (fun hHeld=>?_)
    clear hK K
    try go_frame
    refine tq 9 ?_;try go_frame
    refine tq 10 ?_;try go_frame
    refine tq 11 ?_;try go_frame
    refine oneH 13 fun K hK=>?_
    rw [if_pos (by rfl)]
    have BQ:Blk w3x w2x.heap.size 52 slt0.entA:=(Blk.new w2x 52 slt0.entA).chg (Ej T3) (fun e=>by have:=dkeepOb_ok.lt L2.out.o2 e;omega)
    with_reducible refine Ae (r:=w2x.heap.size) (z:=slt0) (.tmp 20) (.tmp 168) rfl BQ fV rfl rfl ?_
    refine hK.out _ _ (hHeld.chg (Ab BQ fV).2 (fun e=>by have e2:rs=w2x.heap.size:=e;omega)) (fun hHeld=>?_)
    clear hK K
    try go_frame
    refine tq 14 ?_;try go_frame
    refine wpAnyH_done (by kernel_rfl) ?_ _
    obtain ⟨Y1,F1,M1,M2,M3,M4⟩:=L2.out.found (ov:=fV) hI1.out (A8 hba hbd2) T3 (Below.refl _ _) (by omega) (.inl (by omega)) BQ
    replace M1:=Lib.hid M1
    replace M4:=Lib.hid M4
    generalize Ac w3x w2x.heap.size fV=w9x at *
    go_wp2_with fail
    go_meet
    exact ⟨_,Y1,rfl,rfl,M1.out,BA.out.chg M3 (M4.out ra (.inr rfl)),M2,OwnA.chg O2.out M3 (fun b hb=>M4.out b (.inl (.inl hb)))⟩
  ·
   go_simp
   refine hK.out _ _ (hHeld.call (Aa (Below.refl _ _) _)) (fun hHeld=>?_)
   clear hK K
   try go_frame
   have hba:=Aa (Below.refl wd.heap.size wd) (.cells #[.int .i64 0,.bool false,.int .u64 0,.int .u64 0,.bool false,.int .u64 0,.int .u64 0,.int .i64 0,.int .i64 0,.int .i64 0,.int .i64 0,.int .i64 0,.int .u64 0,.int .i64 0] 52)
   have hza:(wd.alloc (.cells #[.int .i64 0,.bool false,.int .u64 0,.int .u64 0,.bool false,.int .u64 0,.int .u64 0,.int .i64 0,.int .i64 0,.int .i64 0,.int .i64 0,.int .i64 0,.int .u64 0,.int .i64 0] 52)).heap.size=wd.heap.size+1:=World.size_alloc _ _
   have hbad:=A8 hba hd
   refine oneH 4 fun K hK=>?_
   go_simp
   (go_at_call 47;(with_reducible refine (OF.out _ hbad).mono ?_))
   rintro e w2x ⟨rfl,hb2⟩
   refine hK.out _ _ (hHeld.call hb2) (fun hHeld=>?_)
   clear hK K
   try go_frame
   have hbd2:=A8 hb2 hbad
   have hz2:=hb2.size
   refine oneH 8 fun K hK=>?_
   go_simp
   (go_at_call 18;(with_reducible refine (FD.out _ hbd2).mono ?_))
   rintro e w3x ⟨rfl,T3⟩
   refine hK.out _ _ (hHeld.chg (Ej T3) hYs) (fun hHeld=>?_)
   clear hK K
   try go_frame
   refine tq 9 ?_;try go_frame
   refine tq 10 ?_;try go_frame
   refine tq 11 ?_;try go_frame
   refine oneH 13 fun K hK=>?_
   rw [if_pos (by rfl)]
   have BQ:Blk w3x v2.heap.size 52 slt0.entA:=((hzd ▸ Blk.new wd 52 slt0.entA:Blk (wd.alloc (.cells #[.int .i64 0,.bool false,.int .u64 0,.int .u64 0,.bool false,.int .u64 0,.int .u64 0,.int .i64 0,.int .i64 0,.int .i64 0,.int .i64 0,.int .i64 0,.int .u64 0,.int .i64 0] 52)) v2.heap.size 52 slt0.entA).call hb2).chg (Ej T3) (fun e=>by have:=dkeepOb_ok.lt L2.out.o2 e;omega)
   with_reducible refine Ae (r:=v2.heap.size) (z:=slt0) (.tmp 20) (.tmp 168) rfl BQ fV rfl rfl ?_
   refine hK.out _ _ (hHeld.chg (Ab BQ fV).2 (fun e=>by have e2:rs=v2.heap.size:=e;omega)) (fun hHeld=>?_)
   clear hK K
   try go_frame
   refine tq 14 ?_;try go_frame
   refine wpAnyH_done (by kernel_rfl) ?_ _
   obtain ⟨Y1,F1,M1,M2,M3,M4⟩:=L2.out.found (ov:=fV) hI1.out hbd2 T3 (Below.refl _ _) (by omega) (.inl (by omega)) BQ
   replace M1:=Lib.hid M1
   replace M4:=Lib.hid M4
   generalize Ac w3x v2.heap.size fV=w9x at *
   go_wp2_with fail
   go_meet
   exact ⟨_,Y1,rfl,rfl,M1.out,BA.out.chg M3 (M4.out ra (.inr rfl)),M2,OwnA.chg O2.out M3 (fun b hb=>M4.out b (.inl (.inl hb)))⟩
 case rest =>
  obtain ⟨rc,Y1,rfl,rfl,L5,BA5,BB,O5⟩:=hcut
  have hEN:∀ W,(binOp .neq 52 fV.val fV.val).run Tryz.prog W=.ok (.bool false) W:=fun W=>by rw [KP,entB_self];rfl
  have hoo:(fo != fo)=false:=by simp
  replace L5:=Lib.hid L5
  replace O5:=Lib.hid O5
  clear OF FD hd
  go_wp2_with (first
   | (refine Am rfl (.tmp 18) rfl ⟨ra,0,none⟩ rfl fV (D7 BA5) ?_)
   | (refine Am rfl (.tmp 20) rfl ⟨rc,0,none⟩ rfl fV (D7 BB) ?_))
  go_meet
  exact ⟨A,q,cs,_,_,_,rfl,FIN.out _ _ _ _ _ _ _ _ L5.out (fun y h=>.inl (.inl h)) O5.out hrg.out hcl7⟩
theorem RZ {n:Nat} {s:TSt} {c:TCfg} (hi:TI n s) (hn:n≤4096) (t:Tup) (bk fl:Int) (h:openE s t bk fl=0):(openV c s t bk fl).t=t∧(openV c s t bk fl).sl<9223372036854775808∧0≤(openV c s t bk fl).gen∧(openV c s t bk fl).gen<18446744073709551616:=by
 unfold openE at h
 cases ho:Bh t bk fl
 ·
  rw [ho] at h
  cases h
 ·
  rw [ho] at h
  cases hL:s.L with
  | nil =>
   rw [hL] at h
   cases h
  | cons i l =>
   have hr:=hi.rng i (by rw [hL];exact List.mem_cons_self)
   have e1:=hi.sl i.toNat (by omega)
   have e2:=hi.gr i.toNat (by omega)
   unfold openV
   rw [ho,hL]
   refine ⟨rfl,?_,e2⟩
   show (s.E i.toNat).sl<9223372036854775808
   rw [e1]
   omega
set_option maxRecDepth 100000 in
set_option maxHeartbeats 64000000 in
theorem Dd:Ei.1:=by
 intro r _ _ w _ _ _ _ hy _ _ _ rb _ _ _ _ _ w4 _ k _ _ _ _ _ _ _ _ _ _ _ _ _ _ _ _ _ _ _ _ _ u64 _ _ _ _ _ _ _ _ _ _ _ _ _ _ _ _ _ _ _ _ _ _ _ _ _ _ _ _ _ _ _ _ _ _ _ _ _ _ _ _ _ _ _ _ _ _ _ _ _ _ _ _ _ _ _ _ _ _ _ _ _ _ _ _ _ _ _ _ _ _ _ _ _ _ _ _ _ _ _ _ _ _ _ _ _ _ _ _ _ _ _ _ _ _ _ _ _ _ _ _ _ _ _ _ _ _ _ _ _ _ _ _ _ _ _ _ _ _ _ _ _ _ _ _ _ _ _ _ _ _ _ _ _ _ _ _ _ _ _ _ _ _ _ _ _ _ _ _ _ _ _ _ _ _ _ _ _ _ _ _ _ _ _ _ _ _ _ _ _ _ _ _ _ _ _ _ _ _ _ _ _ _ _ _ _ _ _ _ _ _ _ _ _ _ _ _ _ _ _ _ _ _ _ _ _ _ _ _ _ _ _ _ _ _ _ _ _ _ _ _ _ _ _ _ _ _ _ _ _ _ _ _ _ _ _ _ A q cs s X _ _ _ _ _ st _ _ _ _ hwfs _ _ rs _ hrlt _ _ _ _ _ _ w7 _ _ Sb7 s0 _ _ _ _ _ _ hT7 hO7 hrg hcl7 _ FIN c0
 have s1:w7.cell? ⟨rs,1,none⟩=some (.int .i64 st.tu.p):=Sb7.cell 1
 have s2:w7.cell? ⟨rs,2,none⟩=some (.bool st.tu.v):=Sb7.cell 2
 have s3:w7.cell? ⟨rs,3,none⟩=some (.int .u64 st.tu.hi):=Sb7.cell 3
 have s4:w7.cell? ⟨rs,4,none⟩=some (.int .u64 st.tu.lo):=Sb7.cell 4
 have s5:w7.cell? ⟨rs,5,none⟩=some (.bool st.tu.v'):=Sb7.cell 5
 have s6:w7.cell? ⟨rs,6,none⟩=some (.int .u64 st.tu.hi'):=Sb7.cell 6
 have s7:w7.cell? ⟨rs,7,none⟩=some (.int .u64 st.tu.lo'):=Sb7.cell 7
 have s8:w7.cell? ⟨rs,8,none⟩=some (.int .i64 st.tu.sp):=Sb7.cell 8
 have s9:w7.cell? ⟨rs,9,none⟩=some (.int .i64 st.tu.dp):=Sb7.cell 9
 have s10:w7.cell? ⟨rs,10,none⟩=some (.int .i64 st.n):=Sb7.cell 10
 have s11:w7.cell? ⟨rs,11,none⟩=some (.int .i64 st.bk):=Sb7.cell 11
 have hva:BH r s st.tu st.bk st.n=0→(D8 r s st.tu st.bk st.n).t=st.tu∧(D8 r s st.tu st.bk st.n).sl<9223372036854775808∧0≤(D8 r s st.tu st.bk st.n).gen∧(D8 r s st.tu st.bk st.n).gen<18446744073709551616:=fun h0=>RZ ((hT7.out.k1.lk (isT st.tu)).ti _ (hT7.out.k1.pix st.tu)) (hT7.out.k1.n4 _) st.tu st.bk st.n h0
 have hce:BH r s st.tu st.bk st.n=0→∃ k0:Nat,Ey r s st.tu st.bk st.n=(k0:Int)∧k0<18446744073709551616:=fun h0=>by
  obtain ⟨k0,c0,hck0,hk0l,-⟩:=DA (Bf hT7.out.k1.ok _) rfl ((hT7.out.k1.lk (isT st.tu)).ti _ (hT7.out.k1.pix st.tu)) st.tu st.bk st.n h0
  exact ⟨k0,hck0,hk0l⟩
 have K1:=JX hT7.out.k1 hT7.out.o1 st.tu hwfs.out.2 st.bk st.n
 have hI1:=hT7.out.k1.open hwfs.out.2 st.bk st.n
 obtain ⟨fV,hfV⟩:∃ v,D8 r s st.tu st.bk st.n=v:=⟨_,rfl⟩
 rw [hfV] at K1
 rw [hfV] at hva
 replace hfV:=Lib.hid hfV
 obtain ⟨oc,hoc⟩:∃ v,Ey r s st.tu st.bk st.n=v:=⟨_,rfl⟩
 rw [hoc] at K1
 rw [hoc] at hce
 replace hoc:=Lib.hid hoc
 obtain ⟨oe,hoe⟩:∃ v,BH r s st.tu st.bk st.n=v:=⟨_,rfl⟩
 rw [hoe] at K1
 rw [hoe] at hce
 rw [hoe] at hva
 replace hoe:=Lib.hid hoe
 obtain ⟨sx,hsx⟩:∃ v,kOpen r s st.tu st.bk st.n=v:=⟨_,rfl⟩
 rw [hsx] at K1
 rw [hsx] at hI1
 replace hsx:=Lib.hid hsx
 replace K1:=Lib.hid K1
 replace hva:=Lib.hid hva
 replace hce:=Lib.hid hce
 replace hI1:=Lib.hid hI1
 go_upto_region 16 with (go_at_call 42;(with_reducible refine K1.out.mono ?_);rintro e v1 ⟨rfl,T1⟩)
 change Code.wp _ _ _ _ (v1.alloc (.cells fV.entA 52))
 obtain ⟨X1,L1,d1⟩:=hT7.out.code hI1.out T1
 have BA:=Blk.new v1 52 fV.entA
 have hbA:=Aa (Below.refl v1.heap.size v1) (.cells fV.entA 52)
 have hzA:(v1.alloc (.cells fV.entA 52)).heap.size=v1.heap.size+1:=World.size_alloc _ _
 have L2:=L1.made (Z:=fun y=>y=v1.heap.size) hbA (fun y hy=>by omega)
 have P2:=(Sb7.chg d1 (fun h=>hrlt _ h rfl)).call hbA
 have O2:=(OwnA.chg hO7.out d1 (fun b hb e=>(hT7.out.kk b (.inl hb)).1 e)).call hbA
 generalize v1.alloc (.cells fV.entA 52)=v2 at *
 obtain ⟨ra,hra⟩:∃ r,v1.heap.size=r:=⟨_,rfl⟩
 rw [hra] at BA L2
 try rw [hra]
 clear s0 s1 s2 s3 s4 s5 s6 s7 s8 s9 s10 s11 K1 T1 d1
 have s1:v2.cell? ⟨rs,1,none⟩=some (.int .i64 st.tu.p):=P2.cell 1
 have s2:v2.cell? ⟨rs,2,none⟩=some (.bool st.tu.v):=P2.cell 2
 have s3:v2.cell? ⟨rs,3,none⟩=some (.int .u64 st.tu.hi):=P2.cell 3
 have s4:v2.cell? ⟨rs,4,none⟩=some (.int .u64 st.tu.lo):=P2.cell 4
 have s5:v2.cell? ⟨rs,5,none⟩=some (.bool st.tu.v'):=P2.cell 5
 have s6:v2.cell? ⟨rs,6,none⟩=some (.int .u64 st.tu.hi'):=P2.cell 6
 have s7:v2.cell? ⟨rs,7,none⟩=some (.int .u64 st.tu.lo'):=P2.cell 7
 have s8:v2.cell? ⟨rs,8,none⟩=some (.int .i64 st.tu.sp):=P2.cell 8
 have s9:v2.cell? ⟨rs,9,none⟩=some (.int .i64 st.tu.dp):=P2.cell 9
 have s10:v2.cell? ⟨rs,10,none⟩=some (.int .i64 st.n):=P2.cell 10
 have s11:v2.cell? ⟨rs,11,none⟩=some (.int .i64 st.bk):=P2.cell 11
 have K2:=Ol L2.k2 L2.o2 st.tu hwfs.out.2 st.bk st.n
 rw [hfV.out,hoc.out,hoe.out,hsx.out] at K2
 replace K2:=Lib.hid K2
 replace BA:=Lib.hid BA
 replace O2:=Lib.hid O2
 replace P2:=Lib.hid P2
 replace L2:=Lib.hid L2
 clear L1 hbA hzA
 go_upto_region 17 with (go_at_call 43;(with_reducible refine K2.out.mono ?_);rintro e v3 ⟨rfl,T2⟩)
 change Code.wp _ _ _ _ (v3.alloc (.cells fV.entA 52))
 obtain ⟨Y1,L3,d3⟩:=L2.out.doc hI1.out T2
 have BB:=Blk.new v3 52 fV.entA
 have hbB:=Aa (Below.refl v3.heap.size v3) (.cells fV.entA 52)
 have L5:=L3.call hbB
 have BA5:=(BA.out.chg d3 (fun e=>(L2.out.kk ra (.inr rfl)).2.1 e)).call hbB
 have O5:=(OwnA.chg O2.out d3 (fun b hb e=>(L2.out.kk b (.inl (.inl hb))).2.1 e)).call hbB
 generalize v3.alloc (.cells fV.entA 52)=v5 at *
 obtain ⟨rc,hrc⟩:∃ r,v3.heap.size=r:=⟨_,rfl⟩
 rw [hrc] at BB
 try rw [hrc]
 have hEN:∀ W,(binOp .neq 52 fV.val fV.val).run Tryz.prog W=.ok (.bool false) W:=fun W=>by rw [KP,entB_self];rfl
 replace L5:=Lib.hid L5
 replace O5:=Lib.hid O5
 clear s1 s2 s3 s4 s5 s6 s7 s8 s9 s10 s11 K2 T2 d3 L3 hbB
 have hoo:(oe != oe)=false:=by simp
 have hcc:(oc != oc)=false:=by simp
 have hd5:Below v5.heap.size v5 v5.drew∧EntAt ra fV v5.drew∧EntAt rc fV v5.drew:=⟨(Below.refl _ _).drew,EntAt.of BA5,EntAt.of BB⟩
 clear BA BA5 BB P2 O2 L2
 by_cases h0:oe=0
 ·
  obtain ⟨g1,g2,g3⟩:=hva.out h0
  obtain ⟨k0,rfl,hk0⟩:=hce.out h0
  subst h0
  have KC:=fun W (hb:Below v5.heap.size v5 W)=>MB (L5.out.call hb).o1 fV g3
  have DC:=fun W (hb:Below v5.heap.size v5 W)=>L8 (L5.out.call hb).o2 fV (by rw [g1];exact hwfs.out.2) g2 g3
  obtain ⟨cv,hcv⟩:∃ v,ckOf (r.rb (isT fV.t)) fV=v:=⟨_,rfl⟩
  rw [hcv] at KC DC
  replace KC:=Lib.hid KC
  replace DC:=Lib.hid DC
  have hvv:(cv != cv)=false:=by simp
  clear hcv g1 g2 g3 hva hce
  refine wp_region_held_drew (S:=fun W=>Below v5.heap.size v5 W∧EntAt ra fV W∧EntAt rc fV W) (by kernel_rfl) hd5 (fun hHeld=>?_)
  generalize v5.drew=wd at *
  refine tq 0 ?_;try go_frame
  refine tq 1 ?_;try go_frame
  refine tq 2 ?_;try go_frame
  refine tq 3 ?_;try go_frame
  refine tqk 4 ?_;try go_frame
  refine tqk 5 ?_;try go_frame
  refine tqk 6 ?_;try go_frame
  refine tqk 7 ?_;try go_frame
  refine tqk 8 ?_;try go_frame
  refine tqk 9 ?_;try go_frame
  refine tqk 10 ?_;try go_frame
  refine tqk 11 ?_;try go_frame
  refine tqk 12 ?_;try go_frame
  refine tqk 13 ?_;try go_frame
  refine tqk 14 ?_;try go_frame
  refine tqk 15 ?_;try go_frame
  refine tqk 16 ?_;try go_frame
  refine tqk 17 ?_;try go_frame
  refine tqk 18 ?_;try go_frame
  refine tqk 20 ?_;try go_frame
  refine tqk 21 ?_;try go_frame
  refine oneH 19 fun K hK=>?_
  go_simp
  (go_at_call 44;(with_reducible refine (KC.out _ hHeld.1).mono ?_))
  rintro e v6 ⟨rfl,hbv6⟩
  refine hK.out _ _ ⟨A8 hbv6 hHeld.1,hHeld.2.1.call hbv6,hHeld.2.2.call hbv6⟩ (fun hHeld6=>?_)
  clear hK K
  try go_frame
  refine oneH 22 fun K hK=>?_
  go_simp
  (go_at_call 45;(with_reducible refine (DC.out _ hHeld6.1).mono ?_))
  rintro e v7 ⟨rfl,hbv7⟩
  refine hK.out _ _ ⟨A8 hbv7 hHeld6.1,hHeld6.2.1.call hbv7,hHeld6.2.2.call hbv7⟩ (fun hHeld7=>?_)
  clear hK K
  try go_frame
  refine tqk 23 ?_;try go_frame
  refine tqk 24 ?_;try go_frame
  refine tqk 25 ?_;try go_frame
  refine wpAnyH_done (by kernel_rfl) ?_ _
  have hb7:=hHeld7.1
  have L7:=L5.out.call hb7
  have O7:=O5.out.call hb7
  have hbase:w4.heap.size≤v7.heap.size:=L7.bl.size
  have hAg:=Lib.hid fun b (hb:InB A b)=>O7.block hb
  replace L7:=Lib.hid L7
  clear hHeld hHeld6 hHeld7 hd5 hb7 hbv6 hbv7 KC DC L5 O5
  go_wp2_with (at_builtin;(refine Hs rfl (.tmp 144) (.tmp 146) rfl w4.heap.size A q cs (k0:Int) cs.length rfl rfl O7 v7.heap.size rfl rfl rfl (by omega) hbase ?_;intro A9 q9 w9 hO9 hP9))
  go_meet
  exact ⟨A9,q9,cs ++ [(k0:Int)],_,_,_,by simp,⟨(L7.out.push hP9 (fun y hy=>⟨.inl (.inl hy),(hAg.out y hy).1⟩) (fun y hy=>(hO9.block hy).2)).less fun y hy=>.inr hy,hO9,fun x hx=>by
   rcases List.mem_append.1 hx with h | h
   · exact hrg.out x h
   ·
    obtain rfl:=List.mem_singleton.1 h
    omega,by simp;omega⟩⟩
 ·
  have h0b:(oe==0)=false:=by simpa using h0
  clear hva hce
  refine wp_region_held_drew (S:=fun W=>Below v5.heap.size v5 W∧EntAt ra fV W∧EntAt rc fV W) (by kernel_rfl) hd5 (fun hHeld=>?_)
  generalize v5.drew=wd at *
  refine tq 0 ?_;try go_frame
  refine tq 1 ?_;try go_frame
  refine tq 2 ?_;try go_frame
  refine tq 3 ?_;try go_frame
  refine tqk 4 ?_;try go_frame
  refine tqk 5 ?_;try go_frame
  refine tqk 6 ?_;try go_frame
  refine tqk 7 ?_;try go_frame
  refine tqk 8 ?_;try go_frame
  refine tqk 9 ?_;try go_frame
  refine tqk 10 ?_;try go_frame
  refine tqk 11 ?_;try go_frame
  refine tqk 12 ?_;try go_frame
  refine tqk 13 ?_;try go_frame
  refine tqk 14 ?_;try go_frame
  refine tqk 15 ?_;try go_frame
  refine tqk 16 ?_;try go_frame
  refine' tn 17 rfl (by kernel_rfl) ?_;try go_frame
  refine' tn 18 rfl (by kernel_rfl) ?_;try go_frame
  refine' tn 19 rfl (by kernel_rfl) ?_;try go_frame
  refine' tn 20 rfl (by kernel_rfl) ?_;try go_frame
  refine' tn 21 rfl (by kernel_rfl) ?_;try go_frame
  refine' tn 22 rfl (by kernel_rfl) ?_;try go_frame
  refine' tn 23 rfl (by kernel_rfl) ?_;try go_frame
  refine tqk 24 ?_;try go_frame
  refine tqk 25 ?_;try go_frame
  refine wpAnyH_done (by kernel_rfl) ?_ _
  have L7:=Lib.hid (L5.out.call hHeld.1)
  have O7:=Lib.hid (O5.out.call hHeld.1)
  clear hHeld hd5 L5 O5
  go_wp2_with fail
  go_meet
  exact ⟨A,q,cs,_,_,_,rfl,FIN.out _ _ _ _ _ _ _ _ L7.out (fun y h=>.inl (.inl h)) O7.out hrg.out hcl7⟩
section
variable {r:KRule} {s:KSt} {w:World} {k:DKPtr} {X:Nat→Prop}
theorem KI.small2 (h:KI r s) (hz:EO r=true):(r.live s).length≤64:=by
 unfold EO at hz
 simp only [Bool.and_eq_true,decide_eq_true_eq] at hz
 have hp:r.p≤4:=by unfold KRule.p;omega
 have e1:r.n true≤8:=(Nat.pow_le_pow_right (by omega) (show r.ns.toNat≤3 by omega):2 ^ r.ns.toNat≤2 ^ 3)
 have e2:r.n false≤8:=(Nat.pow_le_pow_right (by omega) (show r.ws.toNat≤3 by omega):2 ^ r.ws.toNat≤2 ^ 3)
 have h1:=SK h
 have h2:=(SL h r.p (Nat.le_refl _)).1
 have h3:r.p * (r.n true+r.n false)≤4 * 16:=Nat.mul_le_mul hp (by omega)
 omega
theorem Ou (h:Ag k r s w X):∃ P p,w.cell? ⟨k.g,2,none⟩=some (.slice P s.M.length p)∧Reads w w.heap.size 1 P s.M.length ((s.M.map Prod.fst).map (.int .i64)):=by
 obtain ⟨X1,⟨base,P,p,Q,q,h1,h2,-⟩,-⟩:=FU h
 have h3:=h2.fst.ints
 unfold pre2 at h3
 rw [List.length_map] at h3
 exact ⟨P,p,h1.cell 2,h3⟩
end
set_option maxRecDepth 100000 in
set_option maxHeartbeats 64000000 in
theorem DG:Gz.2.1:=by
 intro r _ _ w _ _ _ _ _ hz _ _ _ _ _ _ _ _ _ _ k _ _ dk _ _ _ _ _ _ _ _ _ _ _ _ _ _ _ _ _ _ _ _ _ _ _ _ _ _ gk _ _ _ _ _ _ _ _ _ _ _ _ _ _ _ _ _ _ _ _ _ _ _ _ _ _ _ _ _ _ _ _ _ _ _ _ _ _ _ _ _ _ _ _ _ _ _ _ _ _ _ _ _ _ _ _ _ _ _ _ _ _ _ _ _ _ _ _ _ _ _ _ _ _ _ _ _ _ _ _ _ _ _ _ _ _ _ _ _ _ _ _ _ _ _ _ _ _ _ _ _ _ _ _ _ _ _ _ _ _ _ _ _ _ _ _ _ _ _ _ _ _ _ _ _ _ _ _ _ _ _ _ _ _ _ _ _ _ _ _ _ _ _ _ _ _ _ _ _ _ _ _ _ _ _ _ _ _ _ _ _ _ _ _ _ _ _ _ _ _ _ _ _ _ _ _ _ _ _ _ _ _ _ _ _ _ _ _ _ _ _ _ _ _ _ _ _ _ _ _ _ _ _ _ _ _ _ _ _ _ _ _ _ _ _ _ _ _ _ _ _ _ _ _ _ _ _ j A _ _ _ _ _ _ _ _ _ _ hr _ _ _ _ _ _ rs _ _ _ _ _ _ _ _ _ _ _ _ _ _ wc _ _ _ _ _ _ _ _ _ _ _ _ _ _ _ _ _ _ _ _ _ _ _ _ _ _ _ _ _ _ _ _ _ _ _ _ _ _ _ _ _ _ _ _ _ _ _ _ _ _ _ _ _ _ _ _ _ _ _ _ _ _ _ _ _ _ _ _ _ _ _ _ _ _ _ _ _ _ _ _ _ _ _ _ _ _ _ _ _ _ _ _ _ _ _ _ _ _ _ _ _ _ _ _ _ _ _ _ _ _ _ _ _ _ _ _ _ _ _ _ _ _ _ _ _ _ _ _ _ _ _ _ _ _ _ _ _ _ _ _ _ _ _ _ _ _ _ _ _ _ _ _ _ _ _ _ _ _ _ _ _ _ _ _ _ _ _ _ _ _ _ _ _ _ _ hcut
 obtain ⟨A',q',cs',s',X',Y',rfl,hL⟩:=hcut
 have hI:=hL.lt.k1
 have hLn:=hI.small2 hz.out
 have hT:=hI.total
 have hld:=hI.ld
 obtain ⟨P,p,cP,hP⟩:=Ou hL.lt.o2
 have LV:=Lib.hid fun W (hb:Below wc.heap.size wc W)=>QA hI (hL.lt.call hb).o1
 have LD:=Lib.hid fun W (hb:Below wc.heap.size wc W)=>Oi hI (hL.lt.call hb).o2
 obtain ⟨LL,hLL⟩:∃ L,r.live s'=L:=⟨_,rfl⟩
 rw [hLL] at hLn hT LV LD
 obtain ⟨M,hM⟩:∃ M,s'.M=M:=⟨_,rfl⟩
 have hms:s'.M.length≤100000:=by omega
 have LDS:=Lib.hid fun W (hb:Below wc.heap.size wc W)=>J1 (hL.lt.call hb).o1
 have IDS:=Lib.hid fun W (hb:Below wc.heap.size wc W)=>Mu k.gl k.bl s'.M W (Fa (hL.lt.call hb).o1).1 hld.srt hms
 have TOT:=Lib.hid fun W (hb:Below wc.heap.size wc W)=>O8 k.gl k.bl s'.M W (Fa (hL.lt.call hb).o1).1 hld.srt hld.pos hld.wf hms
 have DTO:=Lib.hid fun W (hb:Below wc.heap.size wc W)=>MH (hL.lt.call hb).o2 hld.pos (by omega)
 have hll:(s'.M.map Prod.fst).length=s'.M.length:=List.length_map ..
 have SI:=Lib.hid fun (A:Option Addr) (c:Nat) (W:World) (hb:Below wc.heap.size wc W) (hr:Reads W W.heap.size 1 A s'.M.length ((s'.M.map Prod.fst).map (.int .i64)))=>show
   Calls Tryz.prog 56 #[.slice A s'.M.length c,.slice P s'.M.length p] W fun e w'=>e=.returned (.bool true)∧Below W.heap.size W w' from by
  have:=K6 A P c p (s'.M.map Prod.fst) (s'.M.map Prod.fst) W W.heap.size (by rw [hll];exact hr) (by rw [hll];exact (hP.below hb).more hb.size) (by omega) (by omega)
  rw [hll] at this
  refine this.mono ?_
  rintro e w' ⟨rfl,m,rfl⟩
  exact ⟨by simp [sameL],Al (Below.refl _ _) _⟩
 rw [hM] at SI TOT DTO IDS cP
 obtain ⟨sm,hsm⟩:∃ v,lmSum M=v:=⟨_,rfl⟩
 rw [hsm] at TOT DTO
 have hss:(sm != sm)=false:=by simp
 have hS0:Below wc.heap.size wc wc.drew∧wc.drew.cell? ⟨dk.g,2,none⟩=some (.slice P M.length p):=⟨(Below.refl _ _).drew,cP⟩
 replace hL:=Lib.hid hL
 replace hI:=Lib.hid hI
 clear hT hld hP cP hLL hM hms hll hsm
 go_upto_region 39 with fail
 refine wp_region_held_drew (S:=fun W=>Below wc.heap.size wc W∧W.cell? ⟨dk.g,2,none⟩=some (.slice P M.length p)) (by kernel_rfl) hS0 (fun hHeld=>?_)
 generalize wc.drew=wq at *
 refine tq 0 ?_;try go_frame
 refine tq 2 ?_;try go_frame
 refine oneH 1 fun K hK=>?_
 go_simp
 (go_at_call 54;(with_reducible refine (LV.out _ hHeld.1).mono ?_))
 rintro e v1 ⟨A1,q1,rfl,hO1,hb1⟩
 refine hK.out _ _ (hold1 hHeld hb1) (fun hHeld1=>?_)
 clear hK K
 try go_frame
 refine oneH 3 fun K hK=>?_
 go_simp
 (go_at_call 55;(with_reducible refine (LD.out _ hHeld1.1).mono ?_))
 rintro e v2 ⟨A2,q2,rfl,hO2,hb2⟩
 refine hK.out _ _ (hold1 hHeld1 hb2) (fun hHeld2=>?_)
 clear hK K
 try go_frame
 have SA:=KG v2 A1 A2 q1 q2 LL (hO1.call hb2).reads hO2.reads (by omega)
 refine oneH 4 fun K hK=>?_
 go_simp
 (go_at_call 23;(with_reducible refine (SA).mono ?_))
 rintro e v3 ⟨rfl,hb3⟩
 refine hK.out _ _ (hold1 hHeld2 hb3) (fun hHeld3=>?_)
 clear hK K
 try go_frame
 clear SA hO1 hO2 hHeld hHeld1 hHeld2 hb1 hb2 hb3
 refine tq 5 ?_;try go_frame
 refine tq 6 ?_;try go_frame
 refine tqk 7 ?_;try go_frame
 refine tqk 10 ?_;try go_frame
 refine tqk 11 ?_;try go_frame
 refine tqk 12 ?_;try go_frame
 refine tqk 13 ?_;try go_frame
 refine tqk 14 ?_;try go_frame
 refine oneH 8 fun K hK=>?_
 go_simp
 (go_at_call 57;(with_reducible refine (LDS.out _ hHeld3.1).mono ?_))
 rintro e v4 ⟨rfl,rfl⟩
 refine hK.out _ _ hHeld3 (fun _=>?_)
 clear hK K
 try go_frame
 refine oneH 9 fun K hK=>?_
 go_simp
 (go_at_call 58;(with_reducible refine (IDS.out _ hHeld3.1).mono ?_))
 rintro e v5 ⟨A5,q5,rfl,hr5,hb5⟩
 refine hK.out _ _ (hold1 hHeld3 hb5) (fun hHeld5=>?_)
 clear hK K
 try go_frame
 refine oneH 15 fun K hK=>?_
 go_simp
 (go_at_call 56;(with_reducible refine (SI.out _ _ _ hHeld5.1 hr5).mono ?_))
 rintro e v6 ⟨rfl,hb6⟩
 refine hK.out _ _ (hold1 hHeld5 hb6) (fun hHeld6=>?_)
 clear hK K
 try go_frame
 clear hHeld3 hHeld5 hb5 hb6 hr5
 refine tqk 16 ?_;try go_frame
 refine tqk 17 ?_;try go_frame
 refine tqk 18 ?_;try go_frame
 refine tqk 19 ?_;try go_frame
 refine tqk 22 ?_;try go_frame
 refine tqk 23 ?_;try go_frame
 refine tqk 24 ?_;try go_frame
 refine oneH 20 fun K hK=>?_
 go_simp
 (go_at_call 57;(with_reducible refine (LDS.out _ hHeld6.1).mono ?_))
 rintro e v7 ⟨rfl,rfl⟩
 refine hK.out _ _ hHeld6 (fun _=>?_)
 clear hK K
 try go_frame
 refine oneH 21 fun K hK=>?_
 go_simp
 (go_at_call 59;(with_reducible refine (TOT.out _ hHeld6.1).mono ?_))
 rintro e v8 ⟨rfl,hb8⟩
 refine hK.out _ _ (hold1 hHeld6 hb8) (fun hHeld8=>?_)
 clear hK K
 try go_frame
 refine oneH 25 fun K hK=>?_
 go_simp
 (go_at_call 60;(with_reducible refine (DTO.out _ hHeld8.1).mono ?_))
 rintro e v9 ⟨rfl,rfl⟩
 refine hK.out _ _ hHeld8 (fun _=>?_)
 clear hK K
 try go_frame
 refine tqk 26 ?_;try go_frame
 refine tqk 27 ?_;try go_frame
 refine wpAnyH_done (by kernel_rfl) ?_ _
 clear LV LD LDS IDS TOT DTO SI
 have hR:=Lib.hid (hL.out.call hHeld8.1)
 clear hHeld6 hHeld8 hb8
 go_wp2_with fail
 go_roundg (gk - 1)
 case measure=>omega
 case rel=>exact ⟨j+1,A',q',cs',s',X',Y',by omega,by go_num,rfl,hR.out⟩
set_option maxRecDepth 100000 in
set_option maxHeartbeats 64000000 in
theorem Ek (r:KRule) (l:List T20) (B:Option Addr) (d:Nat) (w:World) (h:(Bg r=true∧EO r=false)∨30<l.length) :
  Calls Tryz.prog 4 #[r.val,.slice B l.length d] w fun e w'=>e=.returned (.bool true)∧Below w.heap.size w w':=by
 have RR:=Lib.hid fun W=>CW r W
 have SM:=Lib.hid fun W=>Ho r W
 have R0:=Blk.new w 70 r.cells.toArray
 have hb0:Below w.heap.size w (w.alloc (.cells r.cells.toArray 70)):=Aa (Below.refl _ _) _
 obtain ⟨o1,h1⟩:∃ o,Bg r=o:=⟨_,rfl⟩
 obtain ⟨o2,h2⟩:∃ o,EO r=o:=⟨_,rfl⟩
 rw [h1] at RR h
 rw [h2] at SM h
 clear h1 h2
 go_enter Tryz.func4,Tryz.ntmps4
 go_upto_region 1 with fail
 change Code.wp _ _ _ _ (w.alloc (.cells r.cells.toArray 70))
 generalize w.alloc (.cells r.cells.toArray 70)=w0 at *
 obtain ⟨rb,hrb⟩:∃ r,w.heap.size=r:=⟨_,rfl⟩
 rw [hrb] at R0 hb0
 try rw [hrb]
 have RC:=Lib.hid fun W (hb:Below w0.heap.size w0 W)=>KrAt.of (R0.call hb)
 obtain ⟨c0,c1,c2,c3,c4,c5,c6,c7,c8,c9,c10,c11,c12,c13⟩:=RC.out _ (Below.refl _ _)
 have hz:=R0.lt
 clear R0
 cases o1
 ·
  have h30:30<l.length:=by
   rcases h with h | h
   · cases h.1
   · exact h
  have e31:decide (30<l.length)=true:=by simp;omega
  have e30:decide ((30:Int)<(l.length:Int))=true:=by simp;omega
  have e32:(30:Int)<(l.length:Int):=by omega
  clear h SM
  go_wp2_with (first
   | (go_at_call 34;(with_reducible refine (RR.out _).mono ?_);rintro e w1 ⟨rfl,hb1⟩;clear c0 c1 c2 c3 c4 c5 c6 c7 c8 c9 c10 c11 c12 c13;obtain ⟨c0,c1,c2,c3,c4,c5,c6,c7,c8,c9,c10,c11,c12,c13⟩:=RC.out _ hb1)
   | (go_at_call 36;(with_reducible refine (Fc _).mono ?_);rintro e w2 ⟨rfl,hb2⟩))
  go_ret
  exact ⟨rfl,by rw [hrb];exact Ah (A8 hb2 hb1) hb0 (by omega)⟩
 ·
  cases o2
  ·
   clear h
   go_wp2_with (first
    | (go_at_call 34;(with_reducible refine (RR.out _).mono ?_);rintro e w1 ⟨rfl,hb1⟩;clear c0 c1 c2 c3 c4 c5 c6 c7 c8 c9 c10 c11 c12 c13;obtain ⟨c0,c1,c2,c3,c4,c5,c6,c7,c8,c9,c10,c11,c12,c13⟩:=RC.out _ hb1)
    | (go_at_call 35;(with_reducible refine (SM.out _).mono ?_);rintro e w3 ⟨rfl,hb3⟩)
    | (go_at_call 36;(with_reducible refine (Fc _).mono ?_);rintro e w2 ⟨rfl,hb2⟩))
   go_ret
   exact ⟨rfl,by rw [hrb];exact Ah (A8 hb2 (A8 hb3 hb1)) hb0 (by omega)⟩
  ·
   have h30:30<l.length:=by
    rcases h with h | h
    · cases h.2
    · exact h
   have e31:decide (30<l.length)=true:=by simp;omega
   have e30:decide ((30:Int)<(l.length:Int))=true:=by simp;omega
   have e32:(30:Int)<(l.length:Int):=by omega
   clear h
   go_wp2_with (first
    | (go_at_call 34;(with_reducible refine (RR.out _).mono ?_);rintro e w1 ⟨rfl,hb1⟩;clear c0 c1 c2 c3 c4 c5 c6 c7 c8 c9 c10 c11 c12 c13;obtain ⟨c0,c1,c2,c3,c4,c5,c6,c7,c8,c9,c10,c11,c12,c13⟩:=RC.out _ hb1)
    | (go_at_call 35;(with_reducible refine (SM.out _).mono ?_);rintro e w3 ⟨rfl,hb3⟩)
    | (go_at_call 36;(with_reducible refine (Fc _).mono ?_);rintro e w2 ⟨rfl,hb2⟩))
   go_ret
   exact ⟨rfl,by rw [hrb];exact Ah (A8 hb2 (A8 hb3 hb1)) hb0 (by omega)⟩
set_option maxRecDepth 100000 in
set_option maxHeartbeats 64000000 in
theorem FW (r:KRule) (l:List T20) (B:Option Addr) (d:Nat) (w:World) (hr:Bg r=false) (h30:l.length≤30) :
  Calls Tryz.prog 4 #[r.val,.slice B l.length d] w fun e w'=>e=.returned (.bool true)∧Below w.heap.size w w':=by
 have RR:=Lib.hid fun W=>CW r W
 have OF:=Lib.hid fun W=>ME r W
 have RT:=Lib.hid fun W=>Ez r W
 have NW:=Lib.hid fun W=>MC r hr W
 have ND:=Lib.hid fun W=>La r hr W
 have R0:=Blk.new w 70 r.cells.toArray
 have hb0:Below w.heap.size w (w.alloc (.cells r.cells.toArray 70)):=Aa (Below.refl _ _) _
 rw [hr] at RR RT
 clear hr
 have e31:decide (30<l.length)=false:=by simp;omega
 have e30:decide ((30:Int)<(l.length:Int))=false:=by simp;omega
 have e32:¬ (30:Int)<(l.length:Int):=by omega
 go_enter Tryz.func4,Tryz.ntmps4
 go_upto_region 1 with fail
 change Code.wp _ _ _ _ (w.alloc (.cells r.cells.toArray 70))
 generalize w.alloc (.cells r.cells.toArray 70)=w0 at *
 obtain ⟨rb,hrb⟩:∃ r,w.heap.size=r:=⟨_,rfl⟩
 rw [hrb] at R0 hb0
 try rw [hrb]
 have RC:=Lib.hid fun W (hb:Below w0.heap.size w0 W)=>KrAt.of (R0.call hb)
 obtain ⟨c0,c1,c2,c3,c4,c5,c6,c7,c8,c9,c10,c11,c12,c13⟩:=RC.out _ (Below.refl _ _)
 have hz:=R0.lt
 clear R0
 go_upto_region 5 with (first
  | (go_at_call 34;(with_reducible refine (RR.out _).mono ?_);rintro e w1 ⟨rfl,hb1⟩;clear c0 c1 c2 c3 c4 c5 c6 c7 c8 c9 c10 c11 c12 c13;obtain ⟨c0,c1,c2,c3,c4,c5,c6,c7,c8,c9,c10,c11,c12,c13⟩:=RC.out _ hb1)
  | (go_at_call 38;(with_reducible refine (OF.out _).mono ?_);rintro e w4 ⟨rfl,hb4⟩)
  | (go_at_call 37;(with_reducible refine (NW.out _).mono ?_);rintro e w5 ⟨rfl,hb5⟩;clear c0 c1 c2 c3 c4 c5 c6 c7 c8 c9 c10 c11 c12 c13;obtain ⟨c0,c1,c2,c3,c4,c5,c6,c7,c8,c9,c10,c11,c12,c13⟩:=RC.out _ (A8 hb5 (A8 hb4 hb1)))
  | (go_at_call 39;(with_reducible refine (ND.out _).mono ?_);rintro e w6 ⟨rfl,hb6⟩;clear c0 c1 c2 c3 c4 c5 c6 c7 c8 c9 c10 c11 c12 c13;obtain ⟨c0,c1,c2,c3,c4,c5,c6,c7,c8,c9,c10,c11,c12,c13⟩:=RC.out _ (A8 hb6 (A8 hb5 (A8 hb4 hb1)))))
 have hb06:Below rb w w6:=Ah (A8 hb6 (A8 hb5 (A8 hb4 hb1))) hb0 (by omega)
 clear hb1 hb4 hb5 hb6
 go_cut [70] from 51 to 70 (fun x70 wx=>x70=.bool false∧Below w6.heap.size w6 wx)
 case first =>
  have hbd:=Below.drew (Below.refl w6.heap.size w6)
  go_region_held3 (fun W=>Below w6.heap.size w6 W∧W.cell? ⟨rb,0,none⟩=some (.bool r.nw)∧W.cell? ⟨rb,1,none⟩=some (.int .i64 r.ns)∧W.cell? ⟨rb,2,none⟩=some (.int .i64 r.ng)∧W.cell? ⟨rb,3,none⟩=some (.bool r.ww)∧W.cell? ⟨rb,4,none⟩=some (.int .i64 r.ws)∧W.cell? ⟨rb,5,none⟩=some (.int .i64 r.wg)∧W.cell? ⟨rb,6,none⟩=some (.int .u64 r.ka)∧W.cell? ⟨rb,7,none⟩=some (.int .u64 r.kb)∧W.cell? ⟨rb,8,none⟩=some (.int .i64 r.np)∧W.cell? ⟨rb,9,none⟩=some (.int .i64 r.a)∧W.cell? ⟨rb,10,none⟩=some (.int .i64 r.b)∧W.cell? ⟨rb,11,none⟩=some (.int .i64 r.c)∧W.cell? ⟨rb,12,none⟩=some (.int .i64 r.d)∧W.cell? ⟨rb,13,none⟩=some (.int .i64 r.G)) (first | ((first | assumption | ((refine ⟨?_,?_⟩;(first | assumption | exact (Below.refl _ _).drew | exact Below.refl _ _);go_keep))))) (first
   | (go_at_call 38;(with_reducible refine (OF.out _).mono ?_);rintro e w7 ⟨rfl,hb7⟩;have hS7:=DY (by assumption) hb7)
   | (go_at_call 40;(with_reducible refine (RT.out _).mono ?_);rintro e w8 ⟨rfl,hb8⟩;have hS8:=DY (by assumption) hb8)
   | (go_at_call 34;(with_reducible refine (RR.out _).mono ?_);rintro e w9 ⟨rfl,hb9⟩;have hS9:=DY (by assumption) hb9))
  all_goals
   go_wp2_with fail
   go_meet
   exact ⟨rfl,And.left (by assumption)⟩
 case rest =>
  obtain ⟨rfl,hbc⟩:=hcut
  have hz6:=hb06.size
  clear c0 c1 c2 c3 c4 c5 c6 c7 c8 c9 c10 c11 c12 c13 RR OF RT NW ND
  go_wp2_with fail
  go_loopg [8,9] 1 (fun gk cv iv wr=>gk=1∧iv=.int .i64 0∧wc=wr)
  case atStart=>exact ⟨rfl,rfl,rfl⟩
  case round =>
   obtain ⟨rfl,rfl,rfl⟩:=hrel
   by_cases hl:(0:Int)<(l.length:Int)
   ·
    go_wp2_with (go_at_call 36;(with_reducible refine (Fc _).mono ?_);rintro e w2 ⟨rfl,hb2⟩)
    go_ret
    exact ⟨rfl,by rw [hrb];exact Ah (A8 hb2 hbc) hb06 (by omega)⟩
   ·
    go_wp2_with (go_at_call 36;(with_reducible refine (Fc _).mono ?_);rintro e w2 ⟨rfl,hb2⟩)
    go_ret
    exact ⟨rfl,by rw [hrb];exact Ah (A8 hb2 hbc) hb06 (by omega)⟩
theorem Fe (r:KRule) (l:List T20) (B:Option Addr) (d:Nat) (w:World) (hr:Reads w w.heap.size 14 B l.length (l.flatMap T20.cells)) (hwf:∀ s ∈ l,t20Wf s) :
  Calls Tryz.prog 4 #[r.val,.slice B l.length d] w fun e w'=>e=.returned (.bool true)∧Below w.heap.size w w':=by
 by_cases h30:30<l.length
 · exact Ek r l B d w (.inr h30)
 ·
  cases h1:Bg r
  · exact FW r l B d w h1 (by omega)
  ·
   cases h2:EO r
   · exact Ek r l B d w (.inl ⟨h1,h2⟩)
   · exact J4.2.2 (Lib.hid EB) (Lib.hid (Gz.2.2.2 (Lib.hid (Ei.2.2.2.2.2 (Lib.hid Dd) (Lib.hid Dc) (Lib.hid Db) (Lib.hid Da) (Lib.hid D9))) (Lib.hid DG) (Lib.hid DF))) r l B d w hr hwf h1 h2 (by omega)
end Go.Proofs.YteklkljndchjiaaGreat
