/- table: the document's Drop. table: the document's New. -/
import Derived.Test.YteklkljndchjiaaGreatJ36
import Derived.Test.YteklkljndchjiaaGreatJ30
namespace Go.Proofs.YteklkljndchjiaaGreat
open Go Go.RowKit Go.Deep Go.Maps Go.ChangeMaps
theorem Mk (n:Nat) (s:TSt) (L:List Nat):dropS n s L=goAll n s (L.map fun k:Nat=>(k:Int)):=by
 unfold dropS goAll
 rw [List.foldl_map]
 rfl
theorem Fj (E:Nat→Slt) (P:Slt→Bool):∀ n:Nat,Aq E (allL E P n)=(liveE E n).filter P
 | 0=>rfl
 | n+1=>by
  have ih:=Fj E P n
  rw [F5,Bz]
  cases hu:(E n).used
  · simpa using ih
  ·
   cases hp:P (E n)
   · simp [hp,ih]
   ·
    simp [hp,Aq]
    unfold Aq at ih
    exact ih
section
variable {w w' w1 w2:World} {g n:Nat} {b:Int} {c:TCfg} {d:DTs} {s:TSt} {X X1 X2 F:Nat→Prop}
set_option maxRecDepth 100000 in
set_option maxHeartbeats 16000000 in
theorem NS (h:DTabP w g n b c (dOf n s) X) (hti:TI n s) (bk:Int) :
  Calls Tryz.prog 94 #[.pointer (some ⟨g,0,none⟩),.int .i64 bk] w fun e w'=>∃ (A:Option Addr) (q:Nat),e=.returned (.slice A (Aq s.E (allL s.E (fun x=>x.bk==bk) n)).length q)∧OwnE w' w.heap.size A q (Aq s.E (allL s.E (fun x=>x.bk==bk) n))∧DTo w w' g n b c (dOf n (dropS n s (allL s.E (fun x=>x.bk==bk) n))) X:=by
 have hn:=h.n4096
 obtain ⟨_,_,_,A,q,-,-,c7,-,-,-,hO,-,-,-⟩:=h.cells
 dsimp only [dOf] at c7 hO
 have hM:=hti.mlen5 hn
 have hLl:s.L.length≤n:=by have:=Cm hti;omega
 have hln:=Cn s.E n
 have hEF:=Fj s.E (fun x=>x.bk==bk) n
 have hPl:=Eb s.E (fun x=>x.bk==bk) n
 have hPk:∀ k ∈ allL s.E (fun x=>x.bk==bk) n,k<n:=fun k hk=>Hw hk
 obtain ⟨Ls,hLs⟩:∃ L,allL s.E (fun x=>x.bk==bk) n=L:=⟨_,rfl⟩
 obtain ⟨LL,hLL⟩:∃ L,liveE s.E n=L:=⟨_,rfl⟩
 rw [hLs,hLL] at hEF
 rw [hLs] at hPl hPk ⊢
 rw [hLL] at c7 hO hln
 have hlt0:=A0 c7
 have FZ:=Lib.hid fun W (hW:Below w.heap.size w W)=>(hW.cell hlt0).trans c7
 have hsl:=hti.sl
 clear hLs hLL c7 hti
 replace hO:=Lib.hid hO
 replace hEF:=Lib.hid hEF
 replace hPk:=Lib.hid hPk
 replace hsl:=Lib.hid hsl
 replace h:=Lib.hid h
 go_enter Tryz.func94,Tryz.ntmps94
 go_wp2_with fail
 go_loopw [5,6] (fun ov iv wr=>∃ (k:Nat) (out:List Slt) (A':Option Addr) (q':Nat),k≤LL.length∧out=(LL.take k).filter (fun x=>x.bk==bk)∧iv=.int .i64 (k:Nat)∧ov=.slice A' out.length q'∧OwnE wr w.heap.size A' q' out∧Below w.heap.size w wr) (fun _ iv _=>LL.length - (intOf iv).toNat)
 case atStart=>exact ⟨0,[],none,0,by omega,rfl,rfl,rfl,OwnA.nil _ _,Below.refl _ _⟩
 case round =>
  obtain ⟨k,out,A',q',hk,hout,rfl,rfl,hT,hb⟩:=hrel
  have hz:=hb.size
  have c7:=FZ.out wr hb
  have hol:out.length≤4096:=by
   rw [hout]
   refine Nat.le_trans (List.length_filter_le _ _) ?_
   rw [List.length_take]
   omega
  by_cases hlt:k<LL.length
  ·
   have hlti:(k:Int)<(LL.length:Int):=by omega
   obtain ⟨ad,rfl,hbl,hc⟩:=(hO.out.call hb).reads.rec_at Slt.ent (fun _=>rfl) hlt
   have c9:wr.cell? ⟨(ad.add (k * 14)).block,(ad.add (k * 14)).off+9,none⟩=some (.int .i64 LL[k].bk):=hc 9 _ rfl
   have hst:(LL.take (k+1)).filter (fun x=>x.bk==bk)=if LL[k].bk=bk then out ++ [LL[k]] else out:=by
    rw [List.take_succ_eq_append_getElem hlt,List.filter_append,← hout]
    by_cases e:LL[k].bk=bk
    ·
     rw [if_pos e,List.filter_cons_of_pos (by simpa using e)]
     rfl
    ·
     rw [if_neg e,List.filter_cons_of_neg (by simpa using e)]
     simp
   obtain ⟨y,hy⟩:∃ y,LL[k]=y:=⟨_,rfl⟩
   rw [hy] at c9 hst hc
   clear hy
   replace hc:=Lib.hid hc
   replace hT:=Lib.hid hT
   obtain ⟨m,hm⟩:∃ m,out.length=m:=⟨_,rfl⟩
   rw [hm] at hol
   try rw [hm]
   replace hm:=Lib.hid hm
   replace hout:=Lib.hid hout
   by_cases e:y.bk=bk
   ·
    have hne:(y.bk==bk)=true:=by simpa using e
    rw [if_pos e] at hst
    replace hst:=Lib.hid hst
    clear e
    go_wp2_with (first
     | (refine Am rfl (.tmp 33) rfl (ad.add (k * 14)) rfl y hc.out ?_)
     | (at_builtin;refine AV rfl (.tmp 27) (.tmp 35) rfl w.heap.size A' q' out y m hm.out rfl hT.out _ rfl rfl rfl (by have:=hm.out;omega) (by omega) ?_;intro A4 a4 w4 hO4 hp4))
    have hb4:=hp4.below hb (by omega) (fun z hz=>(hT.out.block hz).1)
    have hml:(out ++ [y]).length=m+1:=by rw [List.length_append,hm.out];rfl
    replace hml:=Lib.hid hml
    go_roundw
    case rel=>exact ⟨k+1,out ++ [y],A4,a4,by omega,hst.out.symm,by go_num,by rw [hml.out],hO4,hb4⟩
    case measure=>simp [intOf];omega
   ·
    have hne:(y.bk==bk)=false:=by simpa using e
    rw [if_neg e] at hst
    replace hst:=Lib.hid hst
    clear e
    go_wp2_with fail
    go_roundw
    case rel=>exact ⟨k+1,out,A',q',by omega,hst.out.symm,by go_num,by rw [hm.out],hT.out,hb⟩
    case measure=>simp [intOf];omega
  ·
   obtain rfl:k=LL.length:=by omega
   have hlti:¬ ((LL.length:Nat):Int)<(LL.length:Int):=by omega
   rw [List.take_length,← hEF.out] at hout
   have h1:=h.out.call hb
   have hol2:out.length=Ls.length:=by rw [hout];unfold Aq;rw [List.length_map]
   have hAX:∀ y,InB A' y→¬ X y:=fun y hy hx=>by
    have:=(hT.block hy).1
    have:=h.out.lt hx
    omega
   rw [hol2]
   subst hout
   have hel:(Aq s.E Ls).length=Ls.length:=by unfold Aq;rw [List.length_map]
   replace hT:=Lib.hid hT
   replace h1:=Lib.hid h1
   replace hAX:=Lib.hid hAX
   replace hel:=Lib.hid hel
   clear hO FZ hol hol2 hk
   obtain ⟨wo,rfl⟩:∃ wo,wo=wr:=⟨wr,rfl⟩
   have hX0:XTo w wo X X:=XTo.call hb
   replace hX0:=Lib.hid hX0
   clear hb
   go_wp2_with fail
   go_loopw [7] (fun iv wx=>∃ (j:Nat) (Xj:Nat→Prop),j≤Ls.length∧iv=.int .i64 (j:Nat)∧DTabP wx g n b c (dOf n (dropS n s (Ls.take j))) Xj∧XTo w wx X Xj∧OwnE wx w.heap.size A' q' (Aq s.E Ls)∧(∀ y,InB A' y→¬ Xj y)) (fun iv _=>Ls.length - (intOf iv).toNat)
   case atStart=>exact ⟨0,X,by omega,rfl,h1.out,hX0.out,hT.out,hAX.out⟩
   case round =>
    clear h1 hX0 hT hAX c7 hlti
    obtain ⟨j,Xj,hj,rfl,hD,hX,hO,hAX⟩:=hrel
    by_cases hlt:j<Ls.length
    ·
     have hlti:(j:Int)<(Ls.length:Int):=by omega
     have hj0:(0:Int)≤(j:Int):=by omega
     have hje:j<(Aq s.E Ls).length:=by rw [hel.out];exact hlt
     obtain ⟨ad,rfl,hbl,hc⟩:=hO.reads.rec_at Slt.ent (fun _=>rfl) hje
     have hkx:=hPk.out Ls[j] (List.getElem_mem hlt)
     have hee:(Aq s.E Ls)[j]=s.E Ls[j]:=List.getElem_map ..
     have c11:wr.cell? ⟨(ad.add (j * 14)).block,(ad.add (j * 14)).off+11,none⟩=some (.int .i64 (Aq s.E Ls)[j].sl):=hc 11 _ rfl
     rw [hee,hsl.out _ hkx] at c11
     have hdt:=Ir n s hlt
     have hga:=Mk n s (Ls.take j)
     have hslk:∀ q:Nat,q<n→((dropS n s (Ls.take j)).E q).sl=q:=by rw [hga];exact Gr _ s hsl.out
     have hLk:(dropS n s (Ls.take j)).L.length≤1000000:=by
      rw [hga]
      have h5:=FH (n:=n) ((Ls.take j).map fun k:Nat=>(k:Int)) s
      rw [List.length_map] at h5
      have h6:(Ls.take j).length≤Ls.length:=List.length_take_le' _ _
      omega
     have hMk:(dropS n s (Ls.take j)).M.length≤100000:=by
      rw [hga]
      exact Nat.le_trans (FG _ _) hM
     have hgd:=IG (s:=dropS n s (Ls.take j)) hslk Ls[j]
     rw [← hdt] at hgd
     have GN:=GM hD (Nat.le_trans (Cn _ _) hn) (by exact hMk) (by exact hLk) Ls[j] hkx
     rw [hgd] at GN
     replace GN:=Lib.hid GN
     replace hD:=Lib.hid hD
     replace hX:=Lib.hid hX
     replace hO:=Lib.hid hO
     replace hAX:=Lib.hid hAX
     generalize Ls[j]=kx at *
     clear hc hee hgd hga hdt hslk hLk hMk hje
     go_wp2_with (go_at_call 169;(with_reducible refine GN.out.mono ?_);rintro e w5 ⟨rfl,X5,h5,k5⟩)
     have hA5:∀ y,InB (some ad) y→¬ X5 y:=fun y hy hx=>(k5.2 y hx).elim (fun h=>hAX.out y hy h) (fun h=>by have:=(hO.out.block hy).2;omega)
     have hO5:=OwnA.chg hO.out k5.1 (fun y hy hx=>hAX.out y hy hx)
     go_roundw
     case rel=>exact ⟨j+1,X5,by omega,by go_num,h5,hX.out.trans k5,hO5,hA5⟩
     case measure=>simp [intOf];omega
    ·
     obtain rfl:j=Ls.length:=by omega
     have hlti:¬ ((Ls.length:Nat):Int)<(Ls.length:Int):=by omega
     rw [List.take_length] at hD
     have hfin:DTo w wr g n b c (dOf n (dropS n s Ls)) X:=DTo.mk hD hX
     replace hfin:=Lib.hid hfin
     replace hO:=Lib.hid hO
     clear hD hX hAX
     go_wp2_with fail
     go_ret
     exact ⟨A',q',by rw [hel.out];rfl,hO.out,hfin.out⟩
end
theorem Gs {E:Nat→Slt} (h:∀ k,(E k).used=false):∀ n:Nat,liveE E n=[]
 | 0=>rfl
 | n+1=>by rw [Bz,h n,if_neg (by decide),Gs h n]
theorem Qk:(Tryz.prog.info? 24).map (fun i=>(i.zero,i.size,i.bytes))=some (some (.int .u64 0),1,8):=by kernel_rfl
def s0T (n:Nat):TSt:=⟨0,[],upto n 0,fun k=>{ slt0 with sl:=k },0⟩
theorem GQ {W:World} {fs wg gb n:Nat} {F Y:Nat→Prop} {a1 a2 a3 a4 G:Int} (b:Int) (hF:RefP W fs n (upto n 0) F) (hY:RWheelP W wg G 0 [] Y) (hG:W.rowIs gb 24 n (fun _=>.int .u64 0)) (d1:∀ y,F y→¬ Y y) (d2:∀ y,F y∨Y y→y≠gb) (hn:n≤4096) :
  DTabP (W.alloc (.cells #[.int .i64 b,.int .i64 a1,.int .i64 a2,.int .i64 a3,.int .i64 a4,.pointer (some ⟨fs,0,none⟩),.pointer (some ⟨wg,0,none⟩),.slice none 0 0,.slice (some ⟨gb,0,none⟩) n n,.int .i64 0] 142)) W.heap.size n b ⟨a1,a2,a3,a4,G⟩ (dOf n (s0T n)) (fun y=>y=W.heap.size∨y=gb∨InB none y∨F y∨Y y):=by
 have k:Chg (fun _=>False) W (W.alloc (.cells #[.int .i64 b,.int .i64 a1,.int .i64 a2,.int .i64 a3,.int .i64 a4,.pointer (some ⟨fs,0,none⟩),.pointer (some ⟨wg,0,none⟩),.slice none 0 0,.slice (some ⟨gb,0,none⟩) n n,.int .i64 0] 142)):=Chg.of_below (Aa (Below.refl _ _) _)
 have hgl:=hG.lt
 have e:(dOf n (s0T n)).LL=[]:=Gs (E:=(s0T n).E) (fun _=>rfl) n
 refine ⟨fs,wg,gb,F,Y,none,0,?_,hF.chg k fun _ _ h=>h,hY.chg k fun _ _ h=>h,?_,(C6 hG k fun h=>h).congr fun _ _=>rfl,fun y=>Iff.rfl,d1,fun y hy=>⟨fun e=>?_,d2 y hy,fun hi=>Ba hi⟩,by omega,fun y hi=>absurd hi Ba,hn⟩
 ·
  rw [e]
  exact Blk.new W _ _
 ·
  rw [e]
  exact OwnA.nil _ _
 ·
  rcases hy with hy | hy
  ·
   have:=hF.lt hy
   omega
  ·
   have:=hY.lt hy
   omega
set_option maxRecDepth 100000 in
set_option maxHeartbeats 16000000 in
theorem Rw (b:Nat) (hb:b≤12) (a1 a2 a3 a4:Int) (hr:Du a1 a2 a3 a4=true) (G:Int) (hG:1≤G∧G≤1024) (w:World) :
  Calls Tryz.prog 75 #[.int .i64 b,.agg #[.int .i64 a1,.int .i64 a2,.int .i64 a3,.int .i64 a4],.int .i64 G] w fun e w'=>∃ g X,e=.returned (.pointer (some ⟨g,0,none⟩))∧DTabP w' g (2 ^ b) b ⟨a1,a2,a3,a4,G⟩ (dOf (2 ^ b) (s0T (2 ^ b))) X∧Below w.heap.size w w'∧∀ y,X y→w.heap.size≤y:=by
 obtain ⟨n,hn⟩:∃ n,2 ^ b=n:=⟨_,rfl⟩
 have hn2:n≤4096:=by rw [← hn];exact Nat.le_trans (Nat.pow_le_pow_right (by omega) hb) (by decide)
 have hsh:IntKind.i64.wrap (2 ^ b)=(n:Int):=by
  have e:((2:Int) ^ b)=(n:Int):=by rw [← hn];simp
  rw [e]
  simp [IntKind.wrap,IntKind.bits,IntKind.signed]
  omega
 rw [hn]
 have x1:decide ((b:Int)<0)=false:=by simp
 have x2:decide ((12:Int)<(b:Int))=false:=by simp;omega
 have x3:decide (12<b)=false:=by simp;omega
 have WN:=Lib.hid fun W=>Mf G W hG
 have SN:=Lib.hid fun W=>MU n W hn2
 have RT:=Lib.hid fun W=>G5 a1 a2 a3 a4 W
 rw [hr] at RT
 replace hn:=Lib.hid hn
 go_enter Tryz.func75,Tryz.ntmps75
 go_upto_region 1 with fail
 have R0:=Blk.new w 28 #[.int .i64 a1,.int .i64 a2,.int .i64 a3,.int .i64 a4]
 have hb0:Below w.heap.size w (w.alloc (.cells #[.int .i64 a1,.int .i64 a2,.int .i64 a3,.int .i64 a4] 28)):=Aa (Below.refl _ _) _
 generalize w.alloc (.cells #[.int .i64 a1,.int .i64 a2,.int .i64 a3,.int .i64 a4] 28)=w0 at *
 obtain ⟨r,hrr⟩:∃ r,w.heap.size=r:=⟨_,rfl⟩
 rw [hrr] at R0
 try rw [hrr]
 have c0:=R0.cell 0
 have c1:=R0.cell 1
 have c2:=R0.cell 2
 have c3:=R0.cell 3
 simp at c0 c1 c2 c3
 go_upto_region 3 with (first
  | (go_at_call 72;(with_reducible refine (RT.out _).mono ?_);rintro e w1 ⟨rfl,hb1⟩)
  | (go_at_call 73;(with_reducible refine (WN.out _).mono ?_);rintro e w2 ⟨wgX,YX,rfl,-,hb2,-⟩))
 have d0:=(hb2.cell (A0 ((hb1.cell (A0 c0)).trans c0))).trans ((hb1.cell (A0 c0)).trans c0)
 have d1:=(hb2.cell (A0 ((hb1.cell (A0 c1)).trans c1))).trans ((hb1.cell (A0 c1)).trans c1)
 have d2:=(hb2.cell (A0 ((hb1.cell (A0 c2)).trans c2))).trans ((hb1.cell (A0 c2)).trans c2)
 have d3:=(hb2.cell (A0 ((hb1.cell (A0 c3)).trans c3))).trans ((hb1.cell (A0 c3)).trans c3)
 have hb02:Below w.heap.size w w2:=A8 hb2 (A8 hb1 hb0)
 clear c0 c1 c2 c3 R0 hb1 hb2 hb0 RT
 have hmk:=run_make_row' (P:=Tryz.prog) 43 24 (.int .u64 0) 8 Tryz.underlying43 Qk rfl .i64 .i64 n (by omega) (by omega)
 have HA:=Lib.hid fun (W:World) (o:Obj) (h:Below w2.heap.size w2 W∧W.cell? ⟨r,0,none⟩=some (.int .i64 a1)∧W.cell? ⟨r,1,none⟩=some (.int .i64 a2)∧W.cell? ⟨r,2,none⟩=some (.int .i64 a3)∧W.cell? ⟨r,3,none⟩=some (.int .i64 a4))=>hold4 h (Aa (Below.refl W.heap.size W) o)
 have hz2:=hb02.size
 go_region_held3 (fun W=>Below w2.heap.size w2 W∧W.cell? ⟨r,0,none⟩=some (.int .i64 a1)∧W.cell? ⟨r,1,none⟩=some (.int .i64 a2)∧W.cell? ⟨r,2,none⟩=some (.int .i64 a3)∧W.cell? ⟨r,3,none⟩=some (.int .i64 a4)) (first | ((first | assumption | ((refine ⟨?_,?_⟩;(first | assumption | exact (Below.refl _ _).drew | exact Below.refl _ _);go_keep)))) | exact HA.out _ _ (by assumption)) (first
  | (go_at_call 139;(with_reducible refine (SN.out _).mono ?_);rintro e w3 ⟨fs,F3,rfl,hP3,hb3,hF3⟩;have hS3:=hold4 (by assumption) hb3)
  | (go_at_call 73;(with_reducible refine (WN.out _).mono ?_);rintro e w4 ⟨wg,Y4,rfl,hW4,hb4,hY4⟩;have hS4:=hold4 (by assumption) hb4))
 ·
  have hz3:w2.heap.size≤w3.heap.size:=hb3.size
  have hz4:=hb4.size
  have hl3:∀ y,F3 y→w2.heap.size≤y∧y<w3.heap.size:=fun y hy=>⟨hF3 y hy,hP3.lt hy⟩
  have hl4:∀ y,Y4 y→w3.heap.size≤y∧y<w4.heap.size:=fun y hy=>⟨hY4 y hy,hW4.lt hy⟩
  have hT:=GQ (a1:=a1) (a2:=a2) (a3:=a3) (a4:=a4) (b:Int) (show RefP _ fs n (upto n 0) F3 from by rw [GD];exact hP3.chg (G:=fun _=>False) (Chg.of_below (Aa hb4 (.cells (madeCells #[.int .u64 0] n) 24))) (fun _ _ h=>h)) (hW4.chg (F:=fun _=>False) (Chg.of_below (Aa (Below.refl _ _) (.cells (madeCells #[.int .u64 0] n) 24))) (fun _ _ h=>h)) (World.rowIs_made w4 (.int .u64 0) n 24) (fun y h1 h2=>by have:=hl3 y h1;have:=hl4 y h2;omega) (fun y h=>by
   rcases h with h | h
   ·
    have:=hl3 y h
    omega
   ·
    have:=hl4 y h
    omega) hn2
  have hbW:Below w.heap.size w ((w4.alloc (.cells (madeCells #[.int .u64 0] n) 24)).alloc (.cells #[.int .i64 (b:Int),.int .i64 a1,.int .i64 a2,.int .i64 a3,.int .i64 a4,.pointer (some ⟨fs,0,none⟩),.pointer (some ⟨wg,0,none⟩),.slice none 0 0,.slice (some ⟨w4.heap.size,0,none⟩) n n,.int .i64 0] 142)):=Aa (A8 (Aa (A8 hb4 (A8 hb3 (Below.refl w2.heap.size w2).drew)) (.cells (madeCells #[.int .u64 0] n) 24)) hb02) _
  have hXn:∀ y,(y=(w4.alloc (.cells (madeCells #[.int .u64 0] n) 24)).heap.size∨y=w4.heap.size∨InB none y∨F3 y∨Y4 y)→w.heap.size≤y:=fun y hy=>by
   have hzb:=(A8 (Aa (A8 hb4 (A8 hb3 (Below.refl w2.heap.size w2).drew)) (.cells (madeCells #[.int .u64 0] n) 24)) hb02).size
   rcases hy with h | h | h | h | h
   · omega
   · omega
   · exact absurd h Ba
   ·
    have:=hl3 y h
    omega
   ·
    have:=hl4 y h
    omega
  rw [World.size_alloc] at hT hXn
  replace hT:=Lib.hid hT
  replace hbW:=Lib.hid hbW
  replace hXn:=Lib.hid hXn
  clear hP3 hW4 hF3 hY4 hS3 hS4 hl3 hl4
  go_wp2_with fail
  go_ret
  exact ⟨_,_,rfl,hT.out,hbW.out,hXn.out⟩
 ·
  have hz3:w2.heap.size≤w3.heap.size:=hb3.size
  have hz4:=hb4.size
  rw [World.size_alloc] at hz4
  have hl3:∀ y,F3 y→w2.heap.size≤y∧y<w3.heap.size:=fun y hy=>⟨hF3 y hy,hP3.lt hy⟩
  have hl4:∀ y,Y4 y→w3.heap.size+1≤y∧y<w4.heap.size:=fun y hy=>⟨by have:=hY4 y hy;rw [World.size_alloc] at this;exact this,hW4.lt hy⟩
  have hT:=GQ (a1:=a1) (a2:=a2) (a3:=a3) (a4:=a4) (b:Int) (show RefP _ fs n (upto n 0) F3 from by rw [GD];exact hP3.chg (G:=fun _=>False) (Chg.of_below (A8 hb4 (Aa (Below.refl _ _) (.cells (madeCells #[.int .u64 0] n) 24)))) (fun _ _ h=>h)) hW4 (Dt (World.rowIs_made w3 (.int .u64 0) n 24) hb4) (fun y h1 h2=>by have:=hl3 y h1;have:=hl4 y h2;omega) (fun y h=>by
   rcases h with h | h
   ·
    have:=hl3 y h
    omega
   ·
    have:=hl4 y h
    omega) hn2
  have hbW:Below w.heap.size w (w4.alloc (.cells #[.int .i64 (b:Int),.int .i64 a1,.int .i64 a2,.int .i64 a3,.int .i64 a4,.pointer (some ⟨fs,0,none⟩),.pointer (some ⟨wg,0,none⟩),.slice none 0 0,.slice (some ⟨w3.heap.size,0,none⟩) n n,.int .i64 0] 142)):=Aa (A8 (A8 hb4 (Aa (A8 hb3 (Below.refl w2.heap.size w2).drew) (.cells (madeCells #[.int .u64 0] n) 24))) hb02) _
  have hXn:∀ y,(y=w4.heap.size∨y=w3.heap.size∨InB none y∨F3 y∨Y4 y)→w.heap.size≤y:=fun y hy=>by
   have hzb:=(A8 (A8 hb4 (Aa (A8 hb3 (Below.refl w2.heap.size w2).drew) (.cells (madeCells #[.int .u64 0] n) 24))) hb02).size
   rcases hy with h | h | h | h | h
   · omega
   · omega
   · exact absurd h Ba
   ·
    have:=hl3 y h
    omega
   ·
    have:=hl4 y h
    omega
  replace hT:=Lib.hid hT
  replace hbW:=Lib.hid hbW
  replace hXn:=Lib.hid hXn
  clear hP3 hW4 hF3 hY4 hS3 hS4 hl3 hl4
  go_wp2_with fail
  go_ret
  exact ⟨_,_,rfl,hT.out,hbW.out,hXn.out⟩
 ·
  have hz3:w2.heap.size+1≤w3.heap.size:=by
   have h9:(w2.alloc (.cells (madeCells #[.int .u64 0] n) 24)).heap.size≤w3.heap.size:=hb3.size
   rwa [World.size_alloc] at h9
  have hz4:=hb4.size
  have hl3:∀ y,F3 y→w2.heap.size+1≤y∧y<w3.heap.size:=fun y hy=>⟨by have h9:(w2.alloc (.cells (madeCells #[.int .u64 0] n) 24)).heap.size≤y:=hF3 y hy;rwa [World.size_alloc] at h9,hP3.lt hy⟩
  have hl4:∀ y,Y4 y→w3.heap.size≤y∧y<w4.heap.size:=fun y hy=>⟨hY4 y hy,hW4.lt hy⟩
  have hT:=GQ (a1:=a1) (a2:=a2) (a3:=a3) (a4:=a4) (b:Int) (show RefP _ fs n (upto n 0) F3 from by rw [GD];exact hP3.chg (G:=fun _=>False) (Chg.of_below hb4) (fun _ _ h=>h)) hW4 (Dt (Dt (show (w2.alloc (.cells (madeCells #[.int .u64 0] n) 24)).drew.rowIs w2.heap.size 24 n (fun _=>.int .u64 0) from World.rowIs_made w2 (.int .u64 0) n 24) hb3) hb4) (fun y h1 h2=>by have:=hl3 y h1;have:=hl4 y h2;omega) (fun y h=>by
   rcases h with h | h
   ·
    have:=hl3 y h
    omega
   ·
    have:=hl4 y h
    omega) hn2
  have hbW:Below w.heap.size w (w4.alloc (.cells #[.int .i64 (b:Int),.int .i64 a1,.int .i64 a2,.int .i64 a3,.int .i64 a4,.pointer (some ⟨fs,0,none⟩),.pointer (some ⟨wg,0,none⟩),.slice none 0 0,.slice (some ⟨w2.heap.size,0,none⟩) n n,.int .i64 0] 142)):=Aa (A8 (A8 hb4 (A8 hb3 (Aa (Below.refl w2.heap.size w2) (.cells (madeCells #[.int .u64 0] n) 24)).drew)) hb02) _
  have hXn:∀ y,(y=w4.heap.size∨y=w2.heap.size∨InB none y∨F3 y∨Y4 y)→w.heap.size≤y:=fun y hy=>by
   have hzb:=(A8 (A8 hb4 (A8 hb3 (Aa (Below.refl w2.heap.size w2) (.cells (madeCells #[.int .u64 0] n) 24)).drew)) hb02).size
   rcases hy with h | h | h | h | h
   · omega
   · omega
   · exact absurd h Ba
   ·
    have:=hl3 y h
    omega
   ·
    have:=hl4 y h
    omega
  replace hT:=Lib.hid hT
  replace hbW:=Lib.hid hbW
  replace hXn:=Lib.hid hXn
  clear hP3 hW4 hF3 hY4 hS3 hS4 hl3 hl4
  go_wp2_with fail
  go_ret
  exact ⟨_,_,rfl,hT.out,hbW.out,hXn.out⟩
end Go.Proofs.YteklkljndchjiaaGreat
