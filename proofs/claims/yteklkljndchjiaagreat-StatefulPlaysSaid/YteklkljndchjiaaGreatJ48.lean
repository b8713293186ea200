/- tables: the code's tables and the document's in one world. tables: tables that nobody made. -/
import Derived.Test.YteklkljndchjiaaGreatJ46
import Derived.Test.YteklkljndchjiaaGreatJ47
import Derived.Test.YteklkljndchjiaaGreatJ38
import Derived.Test.YteklkljndchjiaaGreatJ43
import Derived.Test.YteklkljndchjiaaGreatJ44
import Derived.Test.YteklkljndchjiaaGreatJ42
import Derived.Test.YteklkljndchjiaaGreatJ32
namespace Go.Proofs.YteklkljndchjiaaGreat
open Go Go.RowKit Go.Deep Go.Maps Go.ChangeMaps
section
variable {w0 w w':World} {g g2 p n:Nat} {r:TRule} {S1 S2 S':Nat→TSt} {K1 K2 K1' K2' F:Nat→Prop}
def WfE (p n:Nat) (S:Nat→TSt):Prop:=∀ i,i<p→∀ k:Nat,k<n→((S i).E k).used=true→tupWf ((S i).E k).t
theorem WfE.new:WfE p n (fun _=>sT0 n):=fun _ _ _ _ hu=>by cases hu
theorem WfE.all {S S':Nat→TSt} (h:WfE p n S) (hk:∀ i,i<p→KeepE n (S i) (S' i)):WfE p n S':=fun i hi k hkn hu=>by
 obtain ⟨a1,a2,-⟩:=hk i hi k hkn hu
 rw [a2]
 exact h i hi k hkn a1
theorem WfE.upd {S:Nat→TSt} (h:WfE p n S) {i:Nat} {s':TSt} (hk:KeepE n (S i) s'):WfE p n (updS S i s'):=fun j hj k hkn hu=>by
 by_cases e:j=i
 ·
  subst e
  rw [Bm] at hu ⊢
  obtain ⟨a1,a2,-⟩:=hk k hkn hu
  rw [a2]
  exact h j hj k hkn a1
 ·
  rw [Cc _ _ e] at hu ⊢
  exact h j hj k hkn hu
theorem WfE.open {S:Nat→TSt} (h:WfE p n S) (hr:AF r=true) (hn:n=2 ^ r.sl.toNat) {t:Tup} (hp:pIx r t<p) (hti:TI n (S (pIx r t))) (ht:tupWf t) (bk fl:Int):WfE p n (updS S (pIx r t) (openS r.cfg n (S (pIx r t)) t bk fl)):=by
 by_cases h0:openE (S (pIx r t)) t bk fl=0
 ·
  obtain ⟨k,c,-,-,-,-,hc,-,hE,ht2,-,-,-,-⟩:=DA hr hn hti t bk fl h0
  intro j hj k2 hkn hu
  by_cases e:j=pIx r t
  ·
   rw [e,Bm,hE] at hu ⊢
   by_cases e2:k2=c
   ·
    rw [e2,Ad,ht2]
    exact ht
   ·
    rw [AP _ _ e2] at hu ⊢
    exact h _ hp k2 hkn hu
  ·
   rw [Cc _ _ e] at hu ⊢
   exact h j hj k2 hkn hu
 ·
  rw [KM h0,Dn]
  exact h
end
attribute [local go_sem] Oper.semAt_some
theorem Cw (w:World):Calls Tryz.prog 83 #[.pointer none] w fun e w'=>e=.returned (.bool false)∧w=w':=by
 go_enter Tryz.func83,Tryz.ntmps83
 go_wp2_with fail
 go_ret
 exact ⟨rfl,rfl⟩
set_option maxRecDepth 100000 in
set_option maxHeartbeats 4000000 in
theorem Ms (t:Tup) (w:World):Calls Tryz.prog 79 #[.pointer none,t.val] w fun e w'=>e=.returned (.pointer none)∧Below w.heap.size w w':=by
 have GV:=Lib.hid fun W=>Cw W
 have hb0:Below w.heap.size w (w.alloc (.cells t.cells.toArray 47)):=Aa (Below.refl _ _) _
 go_enter Tryz.func79,Tryz.ntmps79
 go_wp2_with (go_at_call 83;(with_reducible refine (GV.out _).mono ?_);rintro e w2 ⟨rfl,rfl⟩)
 go_ret
 exact ⟨rfl,bw⟩
set_option maxRecDepth 100000 in
set_option maxHeartbeats 4000000 in
theorem Ht (x:Slt) (w:World):Calls Tryz.prog 32 #[.pointer none,x.val] w fun e w'=>e=.returned (.int .u64 0)∧Below w.heap.size w w':=by
 have GV:=Lib.hid fun W=>Cw W
 have hb0:Below w.heap.size w (w.alloc (.cells x.entA 52)):=Aa (Below.refl _ _) _
 go_enter Tryz.func32,Tryz.ntmps32
 go_wp2_with (go_at_call 83;(with_reducible refine (GV.out _).mono ?_);rintro e w2 ⟨rfl,rfl⟩)
 go_ret
 exact ⟨rfl,bw⟩
set_option maxRecDepth 100000 in
set_option maxHeartbeats 8000000 in
theorem KQ (v:Value) (t:Tup) (k:Int) (w:World) (GV0:∀ W,Below w.heap.size w W→Calls Tryz.prog 83 #[v] W fun e w'=>e=.returned (.bool false)∧W=w'):Calls Tryz.prog 17 #[v,t.val,.int .u64 k] w fun e w'=>e=.returned (.tuple #[slt0.val,.bool false])∧Below w.heap.size w w':=by
 have hb0:Below w.heap.size w ((w.alloc (.cells t.cells.toArray 47)).alloc (.cells #[.int .i64 0,.bool false,.int .u64 0,.int .u64 0,.bool false,.int .u64 0,.int .u64 0,.int .i64 0,.int .i64 0,.int .i64 0,.int .i64 0,.int .i64 0,.int .u64 0,.int .i64 0] 52)):=Aa (Aa (Below.refl _ _) _) _
 have B2:Blk ((w.alloc (.cells t.cells.toArray 47)).alloc (.cells #[.int .i64 0,.bool false,.int .u64 0,.int .u64 0,.bool false,.int .u64 0,.int .u64 0,.int .i64 0,.int .i64 0,.int .i64 0,.int .i64 0,.int .i64 0,.int .u64 0,.int .i64 0] 52)) (w.alloc (.cells t.cells.toArray 47)).heap.size 52 slt0.entA:=Blk.new (w.alloc (.cells t.cells.toArray 47)) 52 slt0.entA
 rw [World.size_alloc] at B2
 have GV:=Lib.hid (GV0 _ hb0)
 clear GV0
 go_enter Tryz.func17,Tryz.ntmps17
 go_upto_region 1 with fail
 change Code.wp _ _ _ _ ((w.alloc (.cells t.cells.toArray 47)).alloc (.cells #[.int .i64 0,.bool false,.int .u64 0,.int .u64 0,.bool false,.int .u64 0,.int .u64 0,.int .i64 0,.int .i64 0,.int .i64 0,.int .i64 0,.int .i64 0,.int .u64 0,.int .i64 0] 52))
 generalize (w.alloc (.cells t.cells.toArray 47)).alloc (.cells #[.int .i64 0,.bool false,.int .u64 0,.int .u64 0,.bool false,.int .u64 0,.int .u64 0,.int .i64 0,.int .i64 0,.int .i64 0,.int .i64 0,.int .i64 0,.int .u64 0,.int .i64 0] 52)=w1 at *
 obtain ⟨rt,hrt⟩:∃ rt,w.heap.size=rt:=⟨_,rfl⟩
 rw [hrt] at B2
 try rw [hrt]
 go_wp2_with (first
  | (go_at_call 83;(with_reducible refine GV.out.mono ?_);rintro e w2 ⟨rfl,rfl⟩)
  | (with_reducible refine Ao (r:=rt+1) (z:=slt0) rfl rfl (.tmp 6) (.tmp 14) rfl B2 slt0 rfl rfl ?_))
 change bodyPost _ _ _ _ _ (Ac w1 (rt+1) slt0)
 obtain ⟨e1,e2⟩:=Ab B2 slt0
 generalize Ac w1 (rt+1) slt0=w6 at *
 refine bodyPost_ret (v:=.tuple #[slt0.val,.bool false]) (Ew _ _ _ _ _ rfl rfl (EntAt.of e1)) rfl ?_
 exact ⟨rfl,Ar hb0 e2 (fun y hy e=>by have e3:y=rt+1:=e;omega) (by have:=hb0.size;omega)⟩
set_option maxRecDepth 100000 in
set_option maxHeartbeats 8000000 in
theorem Jh (t:Tup) (bk fl:Int) (w:World):Calls Tryz.prog 15 #[.pointer none,t.val,.int .i64 bk,.int .i64 fl] w fun e w'=>e=.returned (.tuple #[slt0.val,.int .u64 0,.int .i64 1])∧Below w.heap.size w w':=by
 have B1:=(Blk.new w 47 t.cells.toArray).alloc (.cells #[.int .i64 0,.bool false,.int .u64 0,.int .u64 0,.bool false,.int .u64 0,.int .u64 0,.int .i64 0,.int .i64 0,.int .i64 0,.int .i64 0,.int .i64 0,.int .u64 0,.int .i64 0] 52)
 have B2:Blk ((w.alloc (.cells t.cells.toArray 47)).alloc (.cells #[.int .i64 0,.bool false,.int .u64 0,.int .u64 0,.bool false,.int .u64 0,.int .u64 0,.int .i64 0,.int .i64 0,.int .i64 0,.int .i64 0,.int .i64 0,.int .u64 0,.int .i64 0] 52)) (w.alloc (.cells t.cells.toArray 47)).heap.size 52 slt0.entA:=Blk.new (w.alloc (.cells t.cells.toArray 47)) 52 slt0.entA
 have hb0:Below w.heap.size w ((w.alloc (.cells t.cells.toArray 47)).alloc (.cells #[.int .i64 0,.bool false,.int .u64 0,.int .u64 0,.bool false,.int .u64 0,.int .u64 0,.int .i64 0,.int .i64 0,.int .i64 0,.int .i64 0,.int .i64 0,.int .u64 0,.int .i64 0] 52)):=Aa (Aa (Below.refl _ _) _) _
 rw [World.size_alloc] at B2
 go_enter Tryz.func15,Tryz.ntmps15
 go_upto_region 1 with fail
 change Code.wp _ _ _ _ ((w.alloc (.cells t.cells.toArray 47)).alloc (.cells #[.int .i64 0,.bool false,.int .u64 0,.int .u64 0,.bool false,.int .u64 0,.int .u64 0,.int .i64 0,.int .i64 0,.int .i64 0,.int .i64 0,.int .i64 0,.int .u64 0,.int .i64 0] 52))
 have hw1:((w.alloc (.cells t.cells.toArray 47)).alloc (.cells #[.int .i64 0,.bool false,.int .u64 0,.int .u64 0,.bool false,.int .u64 0,.int .u64 0,.int .i64 0,.int .i64 0,.int .i64 0,.int .i64 0,.int .i64 0,.int .u64 0,.int .i64 0] 52)).heap.size=w.heap.size+2:=by rw [World.size_alloc,World.size_alloc]
 generalize (w.alloc (.cells t.cells.toArray 47)).alloc (.cells #[.int .i64 0,.bool false,.int .u64 0,.int .u64 0,.bool false,.int .u64 0,.int .u64 0,.int .i64 0,.int .i64 0,.int .i64 0,.int .i64 0,.int .i64 0,.int .u64 0,.int .i64 0] 52)=w1 at *
 obtain ⟨rt,hrt⟩:∃ rt,w.heap.size=rt:=⟨_,rfl⟩
 rw [hrt] at B1 B2 hw1
 try rw [hrt]
 have OF:=Lib.hid fun (W:World)=>Ms t W
 have OP:=Lib.hid fun (W:World)=>Kz t bk fl W
 have hS1:TupAt rt t w1.drew:=TupAt.of B1
 have FIN:=Lib.hid fun (q:Nat) (wX:World) (hb:Below w1.heap.size w1 wX) (hq:w1.heap.size≤q) (hB:Blk wX q 52 slt0.entA)=>show Blk (Ac wX q slt0) (rt+1) 52 slt0.entA∧Below w.heap.size w (Ac wX q slt0) from by
  obtain ⟨-,e2⟩:=Ab hB slt0
  exact ⟨(B2.call hb).chg e2 fun e=>by have e3:rt+1=q:=e;omega,Ar (A8 hb hb0) e2 (fun y hy e=>by have e3:y=q:=e;omega) (by have:=hb0.size;have:=hb.size;omega)⟩
 clear B1 B2 hb0
 go_cut [11,12] from 13 to 30 (fun x11 x12 wx=>∃ q,x11=.pointer (some ⟨q,0,none⟩)∧x12=.int .i64 1∧Blk wx (rt+1) 52 slt0.entA∧Below w.heap.size w wx)
 case first =>
  as_aux_lemma =>
  refine wp_region_held_drew (S:=TupAt rt t) (by kernel_rfl) hS1 (fun hHeld=>?_)
  have hd:Below w1.heap.size w1 w1.drew:=(Below.refl _ _).drew
  have hzd:w1.drew.heap.size=w1.heap.size:=rfl
  generalize w1.drew=wd at *
  replace hzd:=Lib.hid hzd
  refine tq 0 ?_;try go_frame
  refine tq 1 ?_;try go_frame
  refine tq 3 ?_;try go_frame
  refine tq 4 ?_;try go_frame
  refine tq 5 ?_;try go_frame
  refine wpAnyH_ready (rs:=[2,10]) (by kernel_rfl) (by simp) ?_;refine consH rfl (fun K hK=>?_) (consH rfl (fun K hK=>?_) AllReadyH.nil)
  ·
   go_simp
   (go_at_call 79;(with_reducible refine (OF.out _).mono ?_))
   rintro e w2 ⟨rfl,hb2⟩
   refine hK.out _ _ (hHeld.call hb2) (fun hHeld=>?_)
   clear hK K
   try go_frame
   have hsz2:=hb2.size
   refine wpAnyH_ready (rs:=[6,10]) (by kernel_rfl) (by simp) ?_;refine consH rfl (fun K hK=>?_) (consH rfl (fun K hK=>?_) AllReadyH.nil)
   ·
    go_simp
    (go_at_call 80;(with_reducible refine (OP.out _).mono ?_))
    rintro e w3 ⟨rfl,hb3⟩
    refine hK.out _ _ (hHeld.call hb3) (fun hHeld=>?_)
    clear hK K
    try go_frame
    refine tq 7 ?_;try go_frame
    refine tq 8 ?_;try go_frame
    refine tq 9 ?_;try go_frame
    refine oneH 10 fun K hK=>?_
    go_simp
    refine hK.out _ _ (hHeld.call (Aa (Below.refl _ _) _)) (fun hHeld=>?_)
    clear hK K
    try go_frame
    have hsz:=hb3.size
    refine oneH 11 fun K hK=>?_
    rw [if_pos (by rfl)]
    have BQ:Blk (w3.alloc (.cells #[.int .i64 0,.bool false,.int .u64 0,.int .u64 0,.bool false,.int .u64 0,.int .u64 0,.int .i64 0,.int .i64 0,.int .i64 0,.int .i64 0,.int .i64 0,.int .u64 0,.int .i64 0] 52)) w3.heap.size 52 slt0.entA:=Blk.new w3 52 slt0.entA
    with_reducible refine Ae (r:=w3.heap.size) (z:=slt0) (.tmp 11) (.tmp 21) rfl BQ slt0 rfl rfl ?_
    refine hK.out _ _ (hHeld.chg (Ab BQ slt0).2 (fun e=>by have e2:rt=w3.heap.size:=e;have h9:=hzd.out;omega)) (fun hHeld=>?_)
    clear hK K
    try go_frame
    refine tq 12 ?_;try go_frame
    refine wpAnyH_done (by kernel_rfl) ?_ _
    go_wp2_with fail
    go_meet
    exact ⟨w3.heap.size,rfl,rfl,FIN.out w3.heap.size _ (A8 (Aa (Below.refl w3.heap.size w3) (.cells #[.int .i64 0,.bool false,.int .u64 0,.int .u64 0,.bool false,.int .u64 0,.int .u64 0,.int .i64 0,.int .i64 0,.int .i64 0,.int .i64 0,.int .i64 0,.int .u64 0,.int .i64 0] 52)) (A8 hb3 (A8 hb2 hd))) (by have h9:=hzd.out;omega) BQ⟩
   ·
    go_simp
    refine hK.out _ _ (hHeld.call (Aa (Below.refl _ _) _)) (fun hHeld=>?_)
    clear hK K
    try go_frame
    refine oneH 6 fun K hK=>?_
    go_simp
    (go_at_call 80;(with_reducible refine (OP.out _).mono ?_))
    rintro e w3 ⟨rfl,hb3⟩
    refine hK.out _ _ (hHeld.call hb3) (fun hHeld=>?_)
    clear hK K
    try go_frame
    refine tq 7 ?_;try go_frame
    refine tq 8 ?_;try go_frame
    refine tq 9 ?_;try go_frame
    have hsa:(w2.alloc (.cells #[.int .i64 0,.bool false,.int .u64 0,.int .u64 0,.bool false,.int .u64 0,.int .u64 0,.int .i64 0,.int .i64 0,.int .i64 0,.int .i64 0,.int .i64 0,.int .u64 0,.int .i64 0] 52)).heap.size=w2.heap.size+1:=World.size_alloc _ _
    refine oneH 11 fun K hK=>?_
    rw [if_pos (by rfl)]
    have BQ:Blk w3 w2.heap.size 52 slt0.entA:=(Blk.new w2 52 slt0.entA).call hb3
    with_reducible refine Ae (r:=w2.heap.size) (z:=slt0) (.tmp 11) (.tmp 21) rfl BQ slt0 rfl rfl ?_
    refine hK.out _ _ (hHeld.chg (Ab BQ slt0).2 (fun e=>by have e2:rt=w2.heap.size:=e;have h9:=hzd.out;omega)) (fun hHeld=>?_)
    clear hK K
    try go_frame
    refine tq 12 ?_;try go_frame
    refine wpAnyH_done (by kernel_rfl) ?_ _
    go_wp2_with fail
    go_meet
    exact ⟨w2.heap.size,rfl,rfl,FIN.out w2.heap.size _ (A8 hb3 (A8 (Aa (Below.refl w2.heap.size w2) (.cells #[.int .i64 0,.bool false,.int .u64 0,.int .u64 0,.bool false,.int .u64 0,.int .u64 0,.int .i64 0,.int .i64 0,.int .i64 0,.int .i64 0,.int .i64 0,.int .u64 0,.int .i64 0] 52)) (A8 hb2 hd))) (by have h9:=hzd.out;omega) BQ⟩
  ·
   go_simp
   refine hK.out _ _ (hHeld.call (Aa (Below.refl _ _) _)) (fun hHeld=>?_)
   clear hK K
   try go_frame
   refine oneH 2 fun K hK=>?_
   go_simp
   (go_at_call 79;(with_reducible refine (OF.out _).mono ?_))
   rintro e w2 ⟨rfl,hb2⟩
   refine hK.out _ _ (hHeld.call hb2) (fun hHeld=>?_)
   clear hK K
   try go_frame
   refine oneH 6 fun K hK=>?_
   go_simp
   (go_at_call 80;(with_reducible refine (OP.out _).mono ?_))
   rintro e w3 ⟨rfl,hb3⟩
   refine hK.out _ _ (hHeld.call hb3) (fun hHeld=>?_)
   clear hK K
   try go_frame
   refine tq 7 ?_;try go_frame
   refine tq 8 ?_;try go_frame
   refine tq 9 ?_;try go_frame
   refine oneH 11 fun K hK=>?_
   rw [if_pos (by rfl)]
   have BQ:Blk w3 wd.heap.size 52 slt0.entA:=((Blk.new wd 52 slt0.entA).call hb2).call hb3
   with_reducible refine Ae (r:=wd.heap.size) (z:=slt0) (.tmp 11) (.tmp 21) rfl BQ slt0 rfl rfl ?_
   refine hK.out _ _ (hHeld.chg (Ab BQ slt0).2 (fun e=>by have e2:rt=wd.heap.size:=e;have h9:=hzd.out;omega)) (fun hHeld=>?_)
   clear hK K
   try go_frame
   refine tq 12 ?_;try go_frame
   refine wpAnyH_done (by kernel_rfl) ?_ _
   go_wp2_with fail
   go_meet
   exact ⟨wd.heap.size,rfl,rfl,FIN.out wd.heap.size _ (A8 hb3 (A8 hb2 (A8 (Aa (Below.refl wd.heap.size wd) (.cells #[.int .i64 0,.bool false,.int .u64 0,.int .u64 0,.bool false,.int .u64 0,.int .u64 0,.int .i64 0,.int .i64 0,.int .i64 0,.int .i64 0,.int .i64 0,.int .u64 0,.int .i64 0] 52)) hd))) (by have h9:=hzd.out;omega) BQ⟩
 case rest =>
  obtain ⟨q,rfl,rfl,BR,hbw⟩:=hcut
  clear FIN OP OF hS1
  go_wp2_with (with_reducible refine Ao (r:=rt+1) (z:=slt0) rfl rfl (.tmp 8) (.tmp 25) rfl BR slt0 rfl rfl ?_)
  change bodyPost _ _ _ _ _ (Ac wc (rt+1) slt0)
  obtain ⟨e1,e2⟩:=Ab BR slt0
  generalize Ac wc (rt+1) slt0=w6 at *
  refine bodyPost_ret (v:=.tuple #[slt0.val,.int .u64 0,.int .i64 1]) (Ev _ _ _ _ _ _ rfl rfl rfl (EntAt.of e1)) rfl ?_
  exact ⟨rfl,Ar hbw e2 (fun y hy e=>by have e3:y=rt+1:=e;omega) (by have:=hbw.size;omega)⟩
end Go.Proofs.YteklkljndchjiaaGreat
