/- tables: Right and New. tables: the document's Open. tables: the document's Find. -/
import Derived.Test.YteklkljndchjiaaGreatJ42
import Derived.Test.YteklkljndchjiaaGreatJ40
namespace Go.Proofs.YteklkljndchjiaaGreat
open Go Go.RowKit Go.Deep Go.Maps Go.ChangeMaps
theorem Qm:(Tryz.prog.info? 119).map (fun i=>(i.zero,i.size,i.bytes))=some (some (.pointer none),1,8):=by kernel_rfl
abbrev KJ (g:Nat):List Value:=[.pointer (some ⟨g,0,none⟩)]
abbrev OwnT (w:World) (base:Nat) (A:Option Addr) (c:Nat) (l:List Nat):Prop:=OwnA KJ 1 119 w base A c l
theorem GW {W:World} {cs:Array Value} {ops:Array Oper} {rest:List Oper} {o:Oper} {a:Act} {Q:Exit→Act→World→Prop} (hgd:o.guard=none) (s x:Operand)
  (ho:o.op=.call { callee:=.builtin .append,args:=#[s,x],argTypes:=#[116,116] })
  (base:Nat) (A:Option Addr) (c:Nat) (l:List Nat) (v:Nat) (n:Nat) (hn:l.length=n) (hs:a.eval s=.slice A n c) (hown:OwnT W base A c l) (g:Nat) (hg:g=W.heap.size) (hcs:(KJ v).toArray=cs)
  (hx:a.eval x=.slice (some ⟨g,0,none⟩) 1 1) (hl:l.length≤1000000) (hbase:base≤W.heap.size)
  (h:∀ A' c' w',OwnT w' base A' c' (l ++ [v])→Pushed W w' A A'→wpList Tryz.prog ops Q rest (a.put o.dst (.slice A' (n+1) c')) w'):wpList Tryz.prog ops Q (o :: rest) a (W.alloc (.cells cs 119)):=by
 obtain ⟨i0,hi0,hz0,hz1,hz2⟩:=info_parts Qm
 exact CQ KJ 1 (fun _=>rfl) (fun b u hu=>by
  simp at hu;subst hu;rfl) (by omega) 116 i0 _ 8 Tryz.underlying116 hi0 hz0 hz1 hz2 rfl (by omega) hgd s x ho base A c l v n hn hs hown g hg hcs hx hl hbase h
theorem OwnA.some_of {α:Type} {cells:α→List Value} {m:Nat} {e:TypeId} {w:World} {base:Nat} {A:Option Addr} {c:Nat} {l:List α} (h:OwnA cells m e w base A c l) (hl:0<l.length):∃ g,A=some ⟨g,0,none⟩:=by
 obtain ⟨g,cap,hv,-,-⟩:=(show w.ownsRow base e m (.slice A l.length c) l.length (l.flatMap cells) from h).form hl
 simp only [Value.slice.injEq] at hv
 exact ⟨g,hv.1⟩
@[reducible] def RuleAt (rb:Nat) (r:TRule) (W:World):Prop:=W.cell? ⟨rb,0,none⟩=some (.bool r.wd)∧W.cell? ⟨rb,1,none⟩=some (.int .i64 r.sl)∧W.cell? ⟨rb,2,none⟩=some (.int .i64 r.gn)∧W.cell? ⟨rb,3,none⟩=some (.int .u64 r.ka)∧W.cell? ⟨rb,4,none⟩=some (.int .u64 r.kb)∧W.cell? ⟨rb,5,none⟩=some (.int .i64 r.np)∧W.cell? ⟨rb,6,none⟩=some (.int .i64 r.a)∧W.cell? ⟨rb,7,none⟩=some (.int .i64 r.b)∧W.cell? ⟨rb,8,none⟩=some (.int .i64 r.c)∧W.cell? ⟨rb,9,none⟩=some (.int .i64 r.d)∧W.cell? ⟨rb,10,none⟩=some (.int .i64 r.G)
theorem RuleAt.of {rb:Nat} {r:TRule} {W:World} {t:TypeId} (h:Blk W rb t r.cells.toArray):RuleAt rb r W:=⟨h.cell 0,h.cell 1,h.cell 2,h.cell 3,h.cell 4,h.cell 5,h.cell 6,h.cell 7,h.cell 8,h.cell 9,h.cell 10⟩
set_option maxRecDepth 100000 in
set_option maxHeartbeats 8000000 in
theorem FJ (r:TRule) (w:World):Calls Tryz.prog 13 #[r.val] w fun e w'=>e=.returned (.bool (AF r))∧Below w.heap.size w w':=by
 have CR:=Lib.hid fun W=>Gk r.wd r.sl r.gn W
 have RT:=Lib.hid fun W=>JA r.a r.b r.c r.d W
 have WG:=Lib.hid fun (h:1≤r.G∧r.G≤1024) W=>Ik r.G W h
 have WB:=Lib.hid fun (h:r.G<1∨1024<r.G) W=>Ja r.G W h
 obtain ⟨x,hx⟩:∃ x,AF r=x:=⟨_,rfl⟩
 rw [hx]
 unfold AF at hx
 obtain ⟨lo,hlo⟩:∃ x,layOk r.wd r.sl r.gn=x:=⟨_,rfl⟩
 obtain ⟨ro,hro⟩:∃ x,Du r.a r.b r.c r.d=x:=⟨_,rfl⟩
 rw [hlo] at CR hx
 rw [hro] at RT hx
 have R0:=Blk.new w 38 r.cells.toArray
 have hb0:Below w.heap.size w (w.alloc (.cells r.cells.toArray 38)):=Aa (Below.refl _ _) _
 obtain ⟨wd,sl,gn,ka,kb,np,a,b,c,d,G⟩:=r
 dsimp only at *
 clear hlo hro
 replace hx:=Lib.hid hx
 go_enter Tryz.func13,Tryz.ntmps13
 go_upto_region 1 with fail
 change Code.wp _ _ _ _ (w.alloc (.cells (TRule.cells ⟨wd,sl,gn,ka,kb,np,a,b,c,d,G⟩).toArray 38))
 generalize w.alloc (.cells (TRule.cells ⟨wd,sl,gn,ka,kb,np,a,b,c,d,G⟩).toArray 38)=w0 at *
 obtain ⟨rb,hrb⟩:∃ r,w.heap.size=r:=⟨_,rfl⟩
 rw [hrb] at R0
 try rw [hrb]
 have RC:=Lib.hid fun W (h:Below w0.heap.size w0 W)=>RuleAt.of (R0.call h)
 obtain ⟨c0,c1,c2,c3,c4,c5,c6,c7,c8,c9,c10⟩:=RC.out w0 (Below.refl _ _)
 clear R0
 dsimp only at *
 cases lo
 ·
  obtain rfl:false=x:=by simpa using hx.out
  go_wp2_with (go_at_call 76;(with_reducible refine (CR.out _).mono ?_);rintro e w1 ⟨rfl,hb1⟩)
  go_ret
  exact ⟨rfl,bw⟩
 ·
  by_cases n1:1≤np
  ·
   have y1:decide (1≤np)=true:=by simpa using n1
   by_cases n2:np≤16
   ·
    have y2:decide (np≤16)=true:=by simpa using n2
    cases ro
    ·
     obtain rfl:false=x:=by simpa using hx.out
     go_wp2_with (first
      | (go_at_call 76;(with_reducible refine (CR.out _).mono ?_);rintro e w1 ⟨rfl,hb1⟩;clear c0 c1 c2 c3 c4 c5 c6 c7 c8 c9 c10;obtain ⟨c0,c1,c2,c3,c4,c5,c6,c7,c8,c9,c10⟩:=RC.out _ hb1)
      | (go_at_call 77;(with_reducible refine (RT.out _).mono ?_);rintro e w2 ⟨rfl,hb2⟩))
     go_ret
     exact ⟨rfl,bw⟩
    ·
     by_cases hG:1≤G∧G≤1024
     ·
      obtain rfl:true=x:=by
       have:=hx.out
       simp at this
       rw [← this]
       simp
       omega
      have WN:=Lib.hid (WG.out hG)
      clear WG WB
      go_wp2_with (first
       | (go_at_call 76;(with_reducible refine (CR.out _).mono ?_);rintro e w1 ⟨rfl,hb1⟩;clear c0 c1 c2 c3 c4 c5 c6 c7 c8 c9 c10;obtain ⟨c0,c1,c2,c3,c4,c5,c6,c7,c8,c9,c10⟩:=RC.out _ hb1)
       | (go_at_call 77;(with_reducible refine (RT.out _).mono ?_);rintro e w2 ⟨rfl,hb2⟩;clear c0 c1 c2 c3 c4 c5 c6 c7 c8 c9 c10;obtain ⟨c0,c1,c2,c3,c4,c5,c6,c7,c8,c9,c10⟩:=RC.out _ (A8 hb2 hb1))
       | (go_at_call 78;(with_reducible refine (WN.out _).mono ?_);rintro e w3 ⟨wg,Y,rfl,-,hb3,-⟩))
      go_ret
      exact ⟨rfl,bw⟩
     ·
      obtain rfl:false=x:=by
       have:=hx.out
       simp at this
       rw [← this]
       simp
       omega
      have WN:=Lib.hid (WB.out (by omega))
      clear WG WB
      go_wp2_with (first
       | (go_at_call 76;(with_reducible refine (CR.out _).mono ?_);rintro e w1 ⟨rfl,hb1⟩;clear c0 c1 c2 c3 c4 c5 c6 c7 c8 c9 c10;obtain ⟨c0,c1,c2,c3,c4,c5,c6,c7,c8,c9,c10⟩:=RC.out _ hb1)
       | (go_at_call 77;(with_reducible refine (RT.out _).mono ?_);rintro e w2 ⟨rfl,hb2⟩;clear c0 c1 c2 c3 c4 c5 c6 c7 c8 c9 c10;obtain ⟨c0,c1,c2,c3,c4,c5,c6,c7,c8,c9,c10⟩:=RC.out _ (A8 hb2 hb1))
       | (go_at_call 78;(with_reducible refine (WN.out _).mono ?_);rintro e w3 ⟨rfl,rfl⟩))
      go_ret
      exact ⟨rfl,bw⟩
   ·
    have y2:decide (np≤16)=false:=by simpa using n2
    obtain rfl:false=x:=by
     have:=hx.out
     simp at this
     rw [← this]
     simp
     omega
    go_wp2_with (go_at_call 76;(with_reducible refine (CR.out _).mono ?_);rintro e w1 ⟨rfl,hb1⟩;clear c0 c1 c2 c3 c4 c5 c6 c7 c8 c9 c10;obtain ⟨c0,c1,c2,c3,c4,c5,c6,c7,c8,c9,c10⟩:=RC.out _ hb1)
    go_ret
    exact ⟨rfl,bw⟩
  ·
   have y1:decide (1≤np)=false:=by simpa using n1
   obtain rfl:false=x:=by
    have:=hx.out
    simp at this
    rw [← this]
    simp
    omega
   go_wp2_with (go_at_call 76;(with_reducible refine (CR.out _).mono ?_);rintro e w1 ⟨rfl,hb1⟩;clear c0 c1 c2 c3 c4 c5 c6 c7 c8 c9 c10;obtain ⟨c0,c1,c2,c3,c4,c5,c6,c7,c8,c9,c10⟩:=RC.out _ hb1)
   go_ret
   exact ⟨rfl,bw⟩
def sT0 (n:Nat):TSt:=⟨0,[],upto n 0,fun k=>{ slt0 with sl:=k },0⟩
structure MakeW (W:World) (D g:Nat) (r:TRule) (n k:Nat) (A:Option Addr) (c:Nat) (gs sbs:Nat→Nat) (Xs:Nat→Nat→Prop):Prop where
 blk:Blk W g 118 #[.bool r.wd,.int .i64 r.sl,.int .i64 r.gn,.int .u64 r.ka,.int .u64 r.kb,.int .i64 r.np,.int .i64 r.a,.int .i64 r.b,.int .i64 r.c,.int .i64 r.d,.int .i64 r.G,.slice A k c]
 own:OwnT W D A c ((List.range k).map gs)
 tab:∀ i,i<k→TabP W (gs i) (sbs i) n r.cfg (sT0 n) (Xs i)
 low:∀ i,i<k→∀ y,Xs i y→D≤y∧¬ InB A y
 dis:∀ i j,i<k→j<k→i≠j→∀ y,Xs i y→¬ Xs j y
 gD:g<D
 DW:D≤W.heap.size
section
variable {W W1 W2 W3:World} {D g n k c c' g1 sb1:Nat} {r:TRule} {A A':Option Addr} {gs sbs:Nat→Nat} {Xs:Nat→Nat→Prop} {X1:Nat→Prop}
theorem MakeW.call (h:MakeW W D g r n k A c gs sbs Xs) (hb:Below W.heap.size W W1):MakeW W1 D g r n k A c gs sbs Xs :=
 ⟨h.blk.call hb,h.own.call hb,fun i hi=>(h.tab i hi).chg (Chg.of_below (F:=fun _=>False) hb) (fun _ _ h=>h),h.low,h.dis,h.gD,by have:=hb.size;have:=h.DW;omega⟩
theorem MakeW.step (h:MakeW W D g r n k A c gs sbs Xs) (hb:Below W.heap.size W W1) (hT:TabP W1 g1 sb1 n r.cfg (sT0 n) X1) (hX:∀ y,X1 y→W.heap.size≤y) (hO:OwnT W2 D A' c' ((List.range k).map gs ++ [g1])) (hP:Pushed W1 W2 A A') (h3:W3=W2.setCell ⟨g,11,none⟩ (.slice A' (k+1) c')) :
  ∃ gs' sbs' Xs',MakeW W3 D g r n (k+1) A' c' gs' sbs' Xs':=by
 subst h3
 have h1:=h.call hb
 have hDW:=h.DW
 have hgD:=h.gD
 have hz:=hb.size
 have hzP:=hP.chg.size
 have hAg:∀ b,InB A b→D≤b∧b<W.heap.size:=fun b hb=>h.own.block hb
 have hA1:∀ b,InB A' b→D≤b:=fun b hb=>(hO.block hb).1
 have hset:Chg (·=g) W2 (W2.setCell ⟨g,11,none⟩ (.slice A' (k+1) c')):=(Chg.refl (·=g) W2).setCell (p:=⟨g,11,none⟩) (fun _=>rfl) _
 have hmv:∀ {g' sb'} {Y:Nat→Prop},TabP W1 g' sb' n r.cfg (sT0 n) Y→(∀ y,Y y→D≤y∧¬ InB A y)→TabP (W2.setCell ⟨g,11,none⟩ (.slice A' (k+1) c')) g' sb' n r.cfg (sT0 n) Y:=fun hY hl =>
  (hY.chg hP.chg fun y hy=>(hl y hy).2).chg hset fun y hy e=>by have:=(hl y hy).1;have e3:y=g:=e;omega
 have hX1:∀ y,X1 y→D≤y∧¬ InB A y:=fun y hy=>⟨by have:=hX y hy;omega,fun e=>by have:=hX y hy;have:=(hAg y e).2;omega⟩
 refine ⟨fun j=>if j=k then g1 else gs j,fun j=>if j=k then sb1 else sbs j,fun j=>if j=k then X1 else Xs j,?_,?_,fun i hi=>?_,fun i hi y hy=>?_,fun i j hi hj hne y hy hy2=>?_,hgD,?_⟩
 ·
  have:=(h1.blk.chg hP.chg (fun e=>by have:=(hAg _ e).1;omega)).set_ 11 (.slice A' (k+1) c')
  simpa using this
 ·
  have e1:(List.range (k+1)).map (fun j=>if j=k then g1 else gs j)=(List.range k).map gs ++ [g1]:=by
   rw [List.range_succ,List.map_append]
   congr 1
   ·
    refine List.map_congr_left fun j hj=>?_
    have:=List.mem_range.1 hj
    simp [show j≠k by omega]
   · simp
  rw [e1]
  exact hO.chg hset fun b hb e=>by have:=hA1 b hb;have e3:b=g:=e;omega
 ·
  by_cases e:i=k
  ·
   subst e
   simp only [if_true]
   exact hmv hT hX1
  ·
   simp only [e,if_false]
   exact hmv (h1.tab i (by omega)) (h.low i (by omega))
 ·
  have hnew:∀ b,InB A' b→InB A b∨W1.heap.size≤b:=hP.new
  by_cases e:i=k
  ·
   subst e
   simp only [if_true] at hy
   refine ⟨(hX1 y hy).1,fun e=>?_⟩
   rcases hnew y e with h | h
   · exact (hX1 y hy).2 h
   ·
    have:=hT.lt hy
    omega
  ·
   simp only [e,if_false] at hy
   refine ⟨(h.low i (by omega) y hy).1,fun e=>?_⟩
   rcases hnew y e with h2 | h2
   · exact (h.low i (by omega) y hy).2 h2
   ·
    have:=(h1.tab i (by omega)).lt hy
    omega
 ·
  by_cases e:i=k
  ·
   subst e
   simp only [if_true] at hy
   simp only [show j≠i from fun e=>hne e.symm,if_false] at hy2
   have:=(h.tab j (by omega)).lt hy2
   have:=hX y hy
   omega
  ·
   simp only [e,if_false] at hy
   by_cases e2:j=k
   ·
    subst e2
    simp only [if_true] at hy2
    have:=(h.tab i (by omega)).lt hy
    have:=hX y hy2
    omega
   ·
    simp only [e2,if_false] at hy2
    exact h.dis i j (by omega) (by omega) hne y hy hy2
 ·
  have:=hset.size
  omega
theorem MakeW.done (h:MakeW W D g r n k A c gs sbs Xs) (hk:1≤k) (hk2:k≤16) (hr:r.np=(k:Int)):∃ X,TabsP W g r k n (fun _=>sT0 n) X∧∀ y,X y→y=g∨D≤y:=by
 obtain ⟨pb,rfl⟩:=h.own.some_of (by simp;omega)
 have hpb:=h.own.block (b:=pb) ⟨_,rfl,rfl⟩
 have hR:=h.own.reads
 have hgD:=h.gD
 refine ⟨fun y=>y=g∨y=pb∨∃ i,i<k∧Xs i y,⟨pb,c,gs,sbs,Xs,h.blk,fun i hi=>?_,h.tab,fun i hi y hy=>?_,h.dis,fun y=>Iff.rfl,hpb.2,hr,hk,hk2⟩,fun y hy=>?_⟩
 ·
  obtain ⟨ad,e1,-,hc⟩:=Reads.rec_at KJ (fun _=>rfl) hR (k:=i) (by simpa using hi)
  have:=hc 0 (.pointer (some ⟨gs i,0,none⟩)) (by simp)
  obtain rfl:(⟨pb,0,none⟩:Addr)=ad:=by simpa using e1
  have e2:(⟨pb,0,none⟩:Addr).add i=⟨pb,i,none⟩:=by unfold Addr.add;split <;> simp_all
  have e3:(⟨pb,i,none⟩:Addr).add 0=⟨pb,i,none⟩:=by unfold Addr.add;rfl
  rw [Nat.mul_one,e2,e3] at this
  exact this
 ·
  obtain ⟨h1,h2⟩:=h.low i hi y hy
  exact ⟨by omega,fun e=>h2 ⟨_,rfl,e.symm⟩⟩
 ·
  rcases hy with rfl | rfl | ⟨i,hi,hy⟩
  · exact .inl rfl
  · exact .inr hpb.1
  · exact .inr (h.low i hi y hy).1
end
set_option maxRecDepth 100000 in
set_option maxHeartbeats 8000000 in
theorem Ml (r:TRule) (hr:AF r=true) (w:World):Calls Tryz.prog 10 #[r.val] w fun e w'=>∃ g X,e=.returned (.tuple #[.pointer (some ⟨g,0,none⟩),.int .i64 0])∧TabsP w' g r r.np.toNat (2 ^ r.sl.toNat) (fun _=>sT0 (2 ^ r.sl.toNat)) X∧Below w.heap.size w w'∧∀ y,X y→w.heap.size≤y:=by
 have RT:=Lib.hid fun W=>FJ r W
 rw [hr] at RT
 have R0:=Blk.new w 38 r.cells.toArray
 have hb0:Below w.heap.size w (w.alloc (.cells r.cells.toArray 38)):=Aa (Below.refl _ _) _
 obtain ⟨wd,sl,gn,ka,kb,np,a,b,c,d,G⟩:=r
 unfold AF at hr
 dsimp only at *
 simp only [Bool.and_eq_true,decide_eq_true_eq] at hr
 obtain ⟨⟨⟨hL,hN⟩,hI⟩,hG⟩:=hr
 obtain ⟨sb,gb,rfl,rfl,hs12,-⟩:=C9 hL
 obtain ⟨p,rfl⟩:∃ p:Nat,np=p:=⟨np.toNat,by omega⟩
 rw [Int.toNat_natCast,Int.toNat_natCast]
 have TN:=Lib.hid fun W=>Sy sb hs12 a b c d hI G hG W
 have hp1:1≤p:=by omega
 have hp16:p≤16:=by omega
 clear hL hN hI hG
 obtain ⟨n,hn⟩:∃ n,2 ^ sb=n:=⟨_,rfl⟩
 rw [hn] at TN
 rw [hn]
 clear hn
 obtain ⟨rr,hrr⟩:∃ rr:TRule,(⟨wd,sb,gb,ka,kb,p,a,b,c,d,G⟩:TRule)=rr:=⟨_,rfl⟩
 rw [hrr] at R0 hb0
 rw [hrr]
 go_enter Tryz.func10,Tryz.ntmps10
 go_upto_region 1 with fail
 have hw0:(w.alloc (.cells rr.cells.toArray 38)).heap.size=w.heap.size+1:=World.size_alloc _ _
 generalize w.alloc (.cells rr.cells.toArray 38)=w0 at *
 obtain ⟨rb,hrb⟩:∃ r,w.heap.size=r:=⟨_,rfl⟩
 rw [hrb] at R0 hw0
 try rw [hrb]
 have RC:=Lib.hid fun W (h:Below w0.heap.size w0 W)=>RuleAt.of (R0.call h)
 clear R0
 rw [← hrr] at RC
 try dsimp only at RC
 obtain ⟨c0,c1,c2,c3,c4,c5,c6,c7,c8,c9,c10⟩:=RC.out w0 (Below.refl _ _)
 replace hrr:=Lib.hid hrr
 have hnp:rr.np=(p:Int):=by rw [← hrr.out]
 have hcf:rr.cfg=⟨a,b,c,d,G⟩:=by rw [← hrr.out]
 replace hnp:=Lib.hid hnp
 replace hcf:=Lib.hid hcf
 go_upto_region 4 with (go_at_call 13;(with_reducible refine (RT.out _).mono ?_);rintro e w1 ⟨rfl,hb1⟩;clear c0 c1 c2 c3 c4 c5 c6 c7 c8 c9 c10;obtain ⟨c0,c1,c2,c3,c4,c5,c6,c7,c8,c9,c10⟩:=RC.out w1 hb1)
 have T0:=Blk.new w1 118 #[.bool wd,.int .i64 (sb:Int),.int .i64 (gb:Int),.int .u64 ka,.int .u64 kb,.int .i64 (p:Int),.int .i64 a,.int .i64 b,.int .i64 c,.int .i64 d,.int .i64 G,.slice none 0 0]
 have hb2:Below w1.heap.size w1 (w1.alloc (.cells #[.bool wd,.int .i64 (sb:Int),.int .i64 (gb:Int),.int .u64 ka,.int .u64 kb,.int .i64 (p:Int),.int .i64 a,.int .i64 b,.int .i64 c,.int .i64 d,.int .i64 G,.slice none 0 0] 118)):=Aa (Below.refl _ _) _
 have hb02:=A8 hb2 hb1
 have hz2:(w1.alloc (.cells #[.bool wd,.int .i64 (sb:Int),.int .i64 (gb:Int),.int .u64 ka,.int .u64 kb,.int .i64 (p:Int),.int .i64 a,.int .i64 b,.int .i64 c,.int .i64 d,.int .i64 G,.slice none 0 0] 118)).heap.size=w1.heap.size+1:=World.size_alloc _ _
 obtain ⟨g,hg⟩:∃ g,w1.heap.size=g:=⟨_,rfl⟩
 rw [hg] at T0 hz2
 try rw [hg]
 generalize w1.alloc (.cells #[.bool wd,.int .i64 (sb:Int),.int .i64 (gb:Int),.int .u64 ka,.int .u64 kb,.int .i64 (p:Int),.int .i64 a,.int .i64 b,.int .i64 c,.int .i64 d,.int .i64 G,.slice none 0 0] 118)=w2 at *
 have hgw:rb+1≤g:=by have:=hb1.size;omega
 have hM0:MakeW w2 w2.heap.size g rr n 0 none 0 (fun _=>0) (fun _=>0) (fun _ _=>False) :=
  ⟨by rw [← hrr.out];exact T0,OwnA.nil _ _,fun i hi=>by omega,fun i hi=>by omega,fun i j hi=>by omega,by omega,Nat.le_refl _⟩
 clear T0 hb1 hb2 hg c0 c1 c2 c3 c4 c5 c6 c7 c8 c9 c10 RT
 obtain ⟨c0,c1,c2,c3,c4,c5,c6,c7,c8,c9,c10⟩:=RC.out w2 hb02
 replace hM0:=Lib.hid hM0
 go_wp2_with fail
 go_loopg [15] p (fun gk iv wr=>∃ (k:Nat) (A:Option Addr) (q:Nat) (gs sbs:Nat→Nat) (Xs:Nat→Nat→Prop),k+gk=p∧iv=.int .i64 (k:Nat)∧MakeW wr w2.heap.size g rr n k A q gs sbs Xs∧Below w0.heap.size w0 wr)
 case atStart=>exact ⟨0,none,0,_,_,_,by omega,rfl,hM0.out,hb02⟩
 case round =>
  obtain ⟨k,A,q,gs,sbs,Xs,hk,rfl,hM,hbr⟩:=hrel
  clear hM0 c0 c1 c2 c3 c4 c5 c6 c7 c8 c9 c10
  obtain ⟨c0,c1,c2,c3,c4,c5,c6,c7,c8,c9,c10⟩:=RC.out wr hbr
  by_cases hlt:k<p
  ·
   have hlti:(k:Int)<(p:Int):=by omega
   go_upto_region 7 with (go_at_call 74;(with_reducible refine (TN.out _).mono ?_);rintro e w3 ⟨g1,sb1,X1,rfl,hT,hb3,hX1⟩)
   have hM3:=hM.call hb3
   have g11:=hM3.blk.cell 11
   have f11:=hM3.blk.frozen 11
   simp at g11
   have hDW:=hM3.DW
   have hgD:=hM3.gD
   have hAg:∀ y,InB A y→w2.heap.size≤y:=fun y hy=>(hM3.own.block hy).1
   clear c0 c1 c2 c3 c4 c5 c6 c7 c8 c9 c10
   go_wp2_with (at_builtin;(refine GW rfl (.tmp 35) (.tmp 37) rfl w2.heap.size A q ((List.range k).map gs) g1 k (by simp) rfl hM3.own _ (by simp) rfl rfl (by simp;omega) hDW ?_;intro A1 q1 w4 hO4 hP4;have hg4:=hM3.blk.chg hP4.chg (fun e=>by have:=hAg _ e;omega);have c11:=hg4.cell 11;have d11:=hg4.frozen 11;simp at c11;clear g11 f11))
   obtain ⟨gs',sbs',Xs',hM'⟩:=hM.step (W3:=w4.setCell ⟨g,11,none⟩ (.slice A1 (k+1) q1)) hb3 (by rw [hcf.out];exact hT) hX1 hO4 hP4 rfl
   have b4:Below w0.heap.size w0 w4:=hP4.below (A8 hb3 hbr) (by omega) (fun b hb=>by have:=hAg b hb;omega)
   have b5:Below w0.heap.size w0 (w4.setCell ⟨g,11,none⟩ (.slice A1 (k+1) q1)):=Ar b4 (Chg.setCell (F:=(·=g)) (p:=⟨g,11,none⟩) (Chg.refl _ _) (fun _=>rfl) _) (fun y hy e=>by have e2:y=g:=e;omega) (by have:=hP4.chg.size;omega)
   go_roundg (gk - 1)
   case measure=>omega
   case rel=>exact ⟨k+1,A1,q1,gs',sbs',Xs',by omega,by go_num,hM',b5⟩
  ·
   obtain rfl:k=p:=by omega
   have hlti:¬ (k:Int)<(k:Int):=by omega
   obtain ⟨X,hP,hX⟩:=hM.done hp1 hp16 hnp.out
   clear hM
   go_wp2_with fail
   go_ret2
   exact ⟨g,rfl,X,hP,by rw [← hrb];exact A8 hbr hb0,fun y hy=>by have:=hb02.size;rcases hX y hy with h | h <;> omega⟩
theorem Rx {c:TCfg} {n:Nat} {s:TSt} {t:Tup} {bk fl:Int} (hi:TI n s) (hlt:∀ k:Nat,k<n→(k:Int)<9223372036854775808) (h:openE s t bk fl=0):(openV c s t bk fl).t=t∧(openV c s t bk fl).sl<9223372036854775808:=by
 cases ho:Bh t bk fl
 ·
  unfold openE at h
  rw [ho] at h
  cases h
 ·
  cases hL:s.L with
  | nil =>
   unfold openE at h
   rw [ho,hL] at h
   cases h
  | cons i l =>
   have hrng:=hi.rng i (by rw [hL];exact List.mem_cons_self)
   obtain ⟨k,rfl⟩:∃ k:Nat,i=(k:Int):=⟨i.toNat,by omega⟩
   rw [F7 ho hL,Int.toNat_natCast]
   refine ⟨rfl,?_⟩
   show (s.E k).sl<_
   rw [hi.sl k (by omega)]
   exact hlt k (by omega)
theorem EC (F:Array Value) (q:Nat) (x:Slt) (ck e:Int) (W:World) (h8:F[8]?=some (.pointer (some ⟨q,0,none⟩))) (h9:F[9]?=some (.int .u64 ck)) (h10:F[10]?=some (.int .i64 e)) (hE:EntAt q x W):Sem.run Tryz.prog (results Tryz.f16 F) W=.ok (.tuple #[x.val,.int .u64 ck,.int .i64 e]) W:=by
 obtain ⟨r0,r1,r2,r3,r4,r5,r6,r7,r8,r9,r10,r11,r12,r13⟩:=hE
 simp [results,Tryz.results16,go_sem,h8,h9,h10,r0,r1,r2,r3,r4,r5,r6,r7,r8,r9,r10,r11,r12,r13]
section
variable {w w':World} {g p n:Nat} {r:TRule} {S:Nat→TSt} {X F:Nat→Prop}
set_option maxRecDepth 100000 in
set_option maxHeartbeats 8000000 in
theorem KK (h:DTabsP w g r p n S X) (hTI:∀ i,i<p→TI n (S i)) (hR:r.cfg.right) (t:Tup) (ht:tupWf t) (bk fl:Int) :
  Calls Tryz.prog 16 #[.pointer (some ⟨g,0,none⟩),t.val,.int .i64 bk,.int .i64 fl] w fun e w'=>e=.returned (.tuple #[(openV r.cfg (S (pIx r t)) t bk fl).val,.int .u64 (Dz r (S (pIx r t)) t bk fl),.int .i64 (openE (S (pIx r t)) t bk fl)])∧Ce w w' g r p n (updS S (pIx r t) (openS r.cfg n (S (pIx r t)) t bk fl)) X:=by
 obtain ⟨pb,q0,gs,Xs,hW⟩:=h
 have hlt:=fun y (hy:X y)=>hW.lt hy
 have hp1:=hW.p1
 obtain ⟨-,hpl⟩:=Eu r t hW.np hW.p1 hW.p16
 obtain ⟨i,hpi⟩:∃ i,pIx r t=i:=⟨_,rfl⟩
 rw [hpi] at hpl ⊢
 have hti:=hTI i hpl
 obtain ⟨ov,hov⟩:∃ v,openV r.cfg (S i) t bk fl=v:=⟨_,rfl⟩
 obtain ⟨oe,hoe⟩:∃ v,openE (S i) t bk fl=v:=⟨_,rfl⟩
 obtain ⟨os,hos⟩:∃ v,openS r.cfg n (S i) t bk fl=v:=⟨_,rfl⟩
 have hck:Dz r (S i) t bk fl=if oe=0 then makeI r.wd r.sl r.gn r.ka r.kb ov.t ov.sl ov.gen else 0:=by unfold Dz;rw [hov,hoe]
 have hno:oe≠0→ov=slt0:=fun h=>by rw [← hov];rw [← hoe] at h;exact JQ h
 have hwf:oe=0→tupWf ov.t∧ov.sl<9223372036854775808:=fun h=>by rw [← hov];rw [← hoe] at h;obtain ⟨h1,h2⟩:=Rx (c:=r.cfg) hti (fun k hk=>by have:=GR (hW.tab i hpl);omega) h;rw [h1];exact ⟨ht,h2⟩
 have hgn:oe=0→0≤ov.gen∧ov.gen<18446744073709551616:=fun h=>by rw [← hov];rw [← hoe] at h;exact JR hti h
 rw [hck,hov,hoe,hos]
 have B1:=(Blk.new w 47 t.cells.toArray).alloc (.cells #[.int .i64 0,.bool false,.int .u64 0,.int .u64 0,.bool false,.int .u64 0,.int .u64 0,.int .i64 0,.int .i64 0,.int .i64 0,.int .i64 0,.int .i64 0,.int .u64 0,.int .i64 0] 52)
 have B2:Blk ((w.alloc (.cells t.cells.toArray 47)).alloc (.cells #[.int .i64 0,.bool false,.int .u64 0,.int .u64 0,.bool false,.int .u64 0,.int .u64 0,.int .i64 0,.int .i64 0,.int .i64 0,.int .i64 0,.int .i64 0,.int .u64 0,.int .i64 0] 52)) (w.alloc (.cells t.cells.toArray 47)).heap.size 52 slt0.entA:=Blk.new (w.alloc (.cells t.cells.toArray 47)) 52 slt0.entA
 have hb0:Below w.heap.size w ((w.alloc (.cells t.cells.toArray 47)).alloc (.cells #[.int .i64 0,.bool false,.int .u64 0,.int .u64 0,.bool false,.int .u64 0,.int .u64 0,.int .i64 0,.int .i64 0,.int .i64 0,.int .i64 0,.int .i64 0,.int .u64 0,.int .i64 0] 52)):=Aa (Aa (Below.refl _ _) _) _
 rw [World.size_alloc] at B2
 have h1:=hW.call hb0
 clear hW hTI hck
 go_enter Tryz.func16,Tryz.ntmps16
 go_upto_region 1 with fail
 change Code.wp _ _ _ _ ((w.alloc (.cells t.cells.toArray 47)).alloc (.cells #[.int .i64 0,.bool false,.int .u64 0,.int .u64 0,.bool false,.int .u64 0,.int .u64 0,.int .i64 0,.int .i64 0,.int .i64 0,.int .i64 0,.int .i64 0,.int .u64 0,.int .i64 0] 52))
 have hw1:((w.alloc (.cells t.cells.toArray 47)).alloc (.cells #[.int .i64 0,.bool false,.int .u64 0,.int .u64 0,.bool false,.int .u64 0,.int .u64 0,.int .i64 0,.int .i64 0,.int .i64 0,.int .i64 0,.int .i64 0,.int .u64 0,.int .i64 0] 52)).heap.size=w.heap.size+2:=by rw [World.size_alloc,World.size_alloc]
 generalize (w.alloc (.cells t.cells.toArray 47)).alloc (.cells #[.int .i64 0,.bool false,.int .u64 0,.int .u64 0,.bool false,.int .u64 0,.int .u64 0,.int .i64 0,.int .i64 0,.int .i64 0,.int .i64 0,.int .i64 0,.int .u64 0,.int .i64 0] 52)=w1 at *
 obtain ⟨rt,hrt⟩:∃ rt,w.heap.size=rt:=⟨_,rfl⟩
 rw [hrt] at B1 B2 hw1
 try rw [hrt]
 have hXrt:∀ y,X y→y<rt:=fun y hy=>by have:=hlt y hy;omega
 have OF:=Lib.hid fun (W:World) (hb:Below w1.heap.size w1 W)=>FI ((h1.call hb).read) t ht
 rw [hpi] at OF
 have OP:=Lib.hid fun (W:World) (hb:Below w1.heap.size w1 W)=>NQ ((h1.call hb).tab i hpl) hti hR t bk fl
 rw [hov,hoe,hos] at OP
 have hS1:TupAt rt t w1.drew:=TupAt.of B1
 have FIN:∀ (q:Nat) (W w3 wX:World),Below w1.heap.size w1 W→DTo W w3 (gs i) n r.sl r.cfg (dOf n os) (Xs i)→(∃ F:Nat→Prop,Chg F w3 wX∧∀ y,¬ F y)→w1.heap.size≤q→(q<W.heap.size∨w3.heap.size≤q)→Blk wX q 52 slt0.entA →
   rt+1<q∧Blk (Ac wX q ov) q 52 ov.entA∧Blk (Ac wX q ov) (rt+1) 52 slt0.entA∧∃ Xs' X',DTabsW (Ac wX q ov) g r p n (updS S i os) X' pb q0 gs Xs'∧Chg X w (Ac wX q ov)∧(∀ y,X' y→X y∨w.heap.size≤y)∧¬ X' (rt+1):=by
  intro q W w3 wX hb hT hF hq1 hq2 hB
  obtain ⟨F,hF,hF0⟩:=hF
  obtain ⟨Xs',X',k1,k2,k3⟩:=(h1.call hb).part hpl hT
  obtain ⟨e1,e2⟩:=Ab hB ov
  have hz:=hb.size
  have hz3:=k2.size
  have hXq:∀ y,X' y→y≠q:=fun y hy e=>by
   rcases k3 y hy with h | h
   ·
    have:=hXrt y h
    omega
   ·
    have:=k1.lt hy
    omega
  have hk:Chg (·=q) w3 (Ac wX q ov):=(hF.mono fun y _ h=>absurd h (hF0 y)).trans e2 fun y _ h=>h
  have hkw:Chg X w w3:=((Chg.of_below hb0).trans (Chg.of_below (F:=X) hb) (fun _ _ h=>h)).trans k2 (fun _ _ h=>h)
  refine ⟨by omega,e1,?_,Xs',X',k1.chg hk hXq,hkw.trans hk fun y hy e=>by have e2:y=q:=e;omega,fun y hy=>?_,fun hy=>?_⟩
  ·
   refine (((B2.call hb).chg k2 fun e=>?_).chg hk fun e=>?_)
   ·
    have:=hXrt _ e
    omega
   ·
    have e2:rt+1=q:=e
    omega
  ·
   rcases k3 y hy with h | h
   · exact .inl h
   · exact .inr (by omega)
  ·
   rcases k3 _ hy with h | h
   ·
    have:=hXrt _ h
    omega
   · omega
 replace FIN:=Lib.hid FIN
 have hYr:¬ Xs i rt:=fun e=>by have:=hXrt _ (h1.iX hpl _ e);omega
 have hYq:∀ q,w1.heap.size≤q→¬ Xs i q:=fun q hq e=>by have:=(h1.tab i hpl).lt e;omega
 replace hno:=Lib.hid hno
 replace hgn:=Lib.hid hgn
 replace hwf:=Lib.hid hwf
 replace hti:=Lib.hid hti
 clear hov hoe hos hpi B1 B2 hlt h1
 go_cut [11,12] from 13 to 30 (fun x11 x12 wx=>∃ q,x11=.pointer (some ⟨q,0,none⟩)∧x12=.int .i64 oe∧rt+1<q∧Blk wx q 52 ov.entA∧Blk wx (rt+1) 52 slt0.entA∧∃ Xs' X',DTabsW wx g r p n (updS S i os) X' pb q0 gs Xs'∧Chg X w wx∧(∀ y,X' y→X y∨w.heap.size≤y)∧¬ X' (rt+1))
 case first =>
  as_aux_lemma =>
  refine wp_region_held_drew (S:=TupAt rt t) (by kernel_rfl) hS1 (fun hHeld=>?_)
  have hd:Below w1.heap.size w1 w1.drew:=(Below.refl _ _).drew
  have hzd:w1.drew.heap.size=w1.heap.size:=rfl
  generalize w1.drew=wd at *
  replace hzd:=Lib.hid hzd
  refine tq 0 ?_;try go_frame
  refine tq 1 ?_;try go_frame
  refine tq 3 ?_;try go_frame
  refine tq 4 ?_;try go_frame
  refine tq 5 ?_;try go_frame
  refine wpAnyH_ready (rs:=[2,10]) (by kernel_rfl) (by simp) ?_;refine consH rfl (fun K hK=>?_) (consH rfl (fun K hK=>?_) AllReadyH.nil)
  ·
   go_simp
   (go_at_call 81;(with_reducible refine (OF.out _ hd).mono ?_))
   rintro e w2 ⟨rfl,hb2⟩
   refine hK.out _ _ (hHeld.call hb2) (fun hHeld=>?_)
   clear hK K
   try go_frame
   refine wpAnyH_ready (rs:=[6,10]) (by kernel_rfl) (by simp) ?_;refine consH rfl (fun K hK=>?_) (consH rfl (fun K hK=>?_) AllReadyH.nil)
   ·
    go_simp
    (go_at_call 82;(with_reducible refine (OP.out _ (A8 hb2 hd)).mono ?_))
    rintro e w3 ⟨rfl,hT3⟩
    refine hK.out _ _ (hHeld.chg (DU hT3) hYr) (fun hHeld=>?_)
    clear hK K
    try go_frame
    refine tq 7 ?_;try go_frame
    refine tq 8 ?_;try go_frame
    refine tq 9 ?_;try go_frame
    refine oneH 10 fun K hK=>?_
    go_simp
    refine hK.out _ _ (hHeld.call (Aa (Below.refl _ _) _)) (fun hHeld=>?_)
    clear hK K
    try go_frame
    have hsz:=(DU hT3).size
    have hsz2:=hb2.size
    refine oneH 11 fun K hK=>?_
    rw [if_pos (by rfl)]
    have BQ:Blk (w3.alloc (.cells #[.int .i64 0,.bool false,.int .u64 0,.int .u64 0,.bool false,.int .u64 0,.int .u64 0,.int .i64 0,.int .i64 0,.int .i64 0,.int .i64 0,.int .i64 0,.int .u64 0,.int .i64 0] 52)) w3.heap.size 52 slt0.entA:=Blk.new w3 52 slt0.entA
    with_reducible refine Ae (r:=w3.heap.size) (z:=slt0) (.tmp 11) (.tmp 21) rfl BQ ov rfl rfl ?_
    refine hK.out _ _ (hHeld.chg (Ab BQ ov).2 (fun e=>by have e2:rt=w3.heap.size:=e;have h9:=hzd.out;omega)) (fun hHeld=>?_)
    clear hK K
    try go_frame
    refine tq 12 ?_;try go_frame
    refine wpAnyH_done (by kernel_rfl) ?_ _
    go_wp2_with fail
    go_meet
    exact ⟨w3.heap.size,rfl,rfl,FIN.out w3.heap.size w2 w3 _ (A8 hb2 hd) hT3 ⟨fun _=>False,Chg.of_below (Aa (Below.refl _ _) _),fun _ h=>h⟩ (by have h9:=hzd.out;omega) (.inr (Nat.le_refl _)) BQ⟩
   ·
    go_simp
    refine hK.out _ _ (hHeld.call (Aa (Below.refl _ _) _)) (fun hHeld=>?_)
    clear hK K
    try go_frame
    refine oneH 6 fun K hK=>?_
    go_simp
    (go_at_call 82;(with_reducible refine (OP.out _ (A8 (Aa (Below.refl w2.heap.size w2) (.cells #[.int .i64 0,.bool false,.int .u64 0,.int .u64 0,.bool false,.int .u64 0,.int .u64 0,.int .i64 0,.int .i64 0,.int .i64 0,.int .i64 0,.int .i64 0,.int .u64 0,.int .i64 0] 52)) (A8 hb2 hd))).mono ?_))
    rintro e w3 ⟨rfl,hT3⟩
    refine hK.out _ _ (hHeld.chg (DU hT3) hYr) (fun hHeld=>?_)
    clear hK K
    try go_frame
    refine tq 7 ?_;try go_frame
    refine tq 8 ?_;try go_frame
    refine tq 9 ?_;try go_frame
    have hsz2:=hb2.size
    have hsa:(w2.alloc (.cells #[.int .i64 0,.bool false,.int .u64 0,.int .u64 0,.bool false,.int .u64 0,.int .u64 0,.int .i64 0,.int .i64 0,.int .i64 0,.int .i64 0,.int .i64 0,.int .u64 0,.int .i64 0] 52)).heap.size=w2.heap.size+1:=World.size_alloc _ _
    refine oneH 11 fun K hK=>?_
    rw [if_pos (by rfl)]
    have BQ:Blk w3 w2.heap.size 52 slt0.entA:=(Blk.new w2 52 slt0.entA).chg (DU hT3) (hYq _ (by have h9:=hzd.out;omega))
    with_reducible refine Ae (r:=w2.heap.size) (z:=slt0) (.tmp 11) (.tmp 21) rfl BQ ov rfl rfl ?_
    refine hK.out _ _ (hHeld.chg (Ab BQ ov).2 (fun e=>by have e2:rt=w2.heap.size:=e;have h9:=hzd.out;omega)) (fun hHeld=>?_)
    clear hK K
    try go_frame
    refine tq 12 ?_;try go_frame
    refine wpAnyH_done (by kernel_rfl) ?_ _
    go_wp2_with fail
    go_meet
    exact ⟨w2.heap.size,rfl,rfl,FIN.out w2.heap.size (w2.alloc (.cells #[.int .i64 0,.bool false,.int .u64 0,.int .u64 0,.bool false,.int .u64 0,.int .u64 0,.int .i64 0,.int .i64 0,.int .i64 0,.int .i64 0,.int .i64 0,.int .u64 0,.int .i64 0] 52)) w3 _ (A8 (Aa (Below.refl w2.heap.size w2) (.cells #[.int .i64 0,.bool false,.int .u64 0,.int .u64 0,.bool false,.int .u64 0,.int .u64 0,.int .i64 0,.int .i64 0,.int .i64 0,.int .i64 0,.int .i64 0,.int .u64 0,.int .i64 0] 52)) (A8 hb2 hd)) hT3 ⟨fun _=>False,Chg.refl _ _,fun _ h=>h⟩ (by have h9:=hzd.out;omega) (.inl (by omega)) BQ⟩
  ·
   go_simp
   refine hK.out _ _ (hHeld.call (Aa (Below.refl _ _) _)) (fun hHeld=>?_)
   clear hK K
   try go_frame
   refine oneH 2 fun K hK=>?_
   go_simp
   (go_at_call 81;(with_reducible refine (OF.out _ (A8 (Aa (Below.refl wd.heap.size wd) (.cells #[.int .i64 0,.bool false,.int .u64 0,.int .u64 0,.bool false,.int .u64 0,.int .u64 0,.int .i64 0,.int .i64 0,.int .i64 0,.int .i64 0,.int .i64 0,.int .u64 0,.int .i64 0] 52)) hd)).mono ?_))
   rintro e w2 ⟨rfl,hb2⟩
   refine hK.out _ _ (hHeld.call hb2) (fun hHeld=>?_)
   clear hK K
   try go_frame
   refine oneH 6 fun K hK=>?_
   go_simp
   (go_at_call 82;(with_reducible refine (OP.out _ (A8 hb2 (A8 (Aa (Below.refl wd.heap.size wd) (.cells #[.int .i64 0,.bool false,.int .u64 0,.int .u64 0,.bool false,.int .u64 0,.int .u64 0,.int .i64 0,.int .i64 0,.int .i64 0,.int .i64 0,.int .i64 0,.int .u64 0,.int .i64 0] 52)) hd))).mono ?_))
   rintro e w3 ⟨rfl,hT3⟩
   refine hK.out _ _ (hHeld.chg (DU hT3) hYr) (fun hHeld=>?_)
   clear hK K
   try go_frame
   refine tq 7 ?_;try go_frame
   refine tq 8 ?_;try go_frame
   refine tq 9 ?_;try go_frame
   have hsz2:=hb2.size
   have hsa:(wd.alloc (.cells #[.int .i64 0,.bool false,.int .u64 0,.int .u64 0,.bool false,.int .u64 0,.int .u64 0,.int .i64 0,.int .i64 0,.int .i64 0,.int .i64 0,.int .i64 0,.int .u64 0,.int .i64 0] 52)).heap.size=wd.heap.size+1:=World.size_alloc _ _
   refine oneH 11 fun K hK=>?_
   rw [if_pos (by rfl)]
   have BQ:Blk w3 wd.heap.size 52 slt0.entA:=((Blk.new wd 52 slt0.entA).call hb2).chg (DU hT3) (hYq _ (by have h9:=hzd.out;omega))
   with_reducible refine Ae (r:=wd.heap.size) (z:=slt0) (.tmp 11) (.tmp 21) rfl BQ ov rfl rfl ?_
   refine hK.out _ _ (hHeld.chg (Ab BQ ov).2 (fun e=>by have e2:rt=wd.heap.size:=e;have h9:=hzd.out;omega)) (fun hHeld=>?_)
   clear hK K
   try go_frame
   refine tq 12 ?_;try go_frame
   refine wpAnyH_done (by kernel_rfl) ?_ _
   go_wp2_with fail
   go_meet
   exact ⟨wd.heap.size,rfl,rfl,FIN.out wd.heap.size w2 w3 _ (A8 hb2 (A8 (Aa (Below.refl wd.heap.size wd) (.cells #[.int .i64 0,.bool false,.int .u64 0,.int .u64 0,.bool false,.int .u64 0,.int .u64 0,.int .i64 0,.int .i64 0,.int .i64 0,.int .i64 0,.int .i64 0,.int .u64 0,.int .i64 0] 52)) hd)) hT3 ⟨fun _=>False,Chg.refl _ _,fun _ h=>h⟩ (by have h9:=hzd.out;omega) (.inl (by omega)) BQ⟩
 case rest =>
  as_aux_lemma =>
  obtain ⟨q,rfl,rfl,hq,BQ,BR,Xs',X',hW',hc,hn,hnr⟩:=hcut
  clear FIN OP OF hYr hYq hti hXrt hS1
  replace hn:=Lib.hid hn
  replace hnr:=Lib.hid hnr
  replace hR:=Lib.hid hR
  by_cases h0:oe=0
  ·
   subst h0
   have hCK:=Lib.hid (EK (hW'.read.call (Below.refl _ _).drew) ov (hwf.out rfl).1 (hwf.out rfl).2 (hgn.out rfl))
   have hE1:EntAt q ov wc.drew:=EntAt.of BQ
   replace BR:=Lib.hid BR
   replace hW':=Lib.hid hW'
   replace hc:=Lib.hid hc
   obtain ⟨ck,hck⟩:∃ ck,makeI r.wd r.sl r.gn r.ka r.kb ov.t ov.sl ov.gen=ck:=⟨_,rfl⟩
   rw [hck] at hCK
   go_upto_region 4 with fail
   refine wp_region_held_drew (S:=EntAt q ov) (by kernel_rfl) hE1 (fun hHeld=>?_)
   refine tq 0 ?_;try go_frame
   refine tq 1 ?_;try go_frame
   refine tq 2 ?_;try go_frame
   refine oneH 3 fun K hK=>?_
   go_simp
   (go_at_call 33;(with_reducible refine hCK.out.mono ?_))
   rintro e w5 ⟨rfl,hb5⟩
   refine hK.out _ _ (hHeld.call hb5) (fun hHeld=>?_)
   clear hK K
   try go_frame
   refine oneH 4 fun K hK=>?_
   rw [if_pos (by rfl)]
   have hb5':=A8 hb5 (Below.refl wc.heap.size wc).drew
   have BR5:=BR.out.call hb5'
   with_reducible refine Ae (r:=rt+1) (z:=slt0) (.tmp 8) (.tmp 27) rfl BR5 ov rfl rfl ?_
   obtain ⟨e1,e2⟩:=Ab BR5 ov
   generalize Ac w5 (rt+1) ov=w6 at *
   refine hK.out _ _ (hHeld.chg e2 (fun e=>by have e3:q=rt+1:=e;omega)) (fun hHeld=>?_)
   clear hK K
   try go_frame
   refine tq 5 ?_;try go_frame
   refine tq 6 ?_;try go_frame
   refine wpAnyH_done (by kernel_rfl) ?_ _
   have hT:Ce w w6 g r p n (updS S i os) X:=⟨X',⟨pb,q0,gs,Xs',(hW'.out.call hb5').chg e2 fun y hy e=>by have e3:y=rt+1:=e;subst e3;exact hnr.out hy⟩,((hc.out.trans (Chg.of_below (F:=X) hb5') (fun _ _ h=>h)).trans e2 fun y hy e=>by have e3:y=rt+1:=e;omega),hn.out⟩
   have hE6:=Lib.hid (EntAt.of e1)
   replace hT:=Lib.hid hT
   clear hHeld e1 e2
   go_wp2_with fail
   refine bodyPost_ret (v:=.tuple #[ov.val,.int .u64 ck,.int .i64 0]) (EC _ _ _ _ _ _ rfl rfl rfl hE6.out) rfl ?_
   exact ⟨rfl,hT.out⟩
  ·
   have hne:(oe != 0)=true:=by simpa using h0
   have hov:=hno.out h0
   subst hov
   replace h0:=Lib.hid h0
   replace hW':=Lib.hid hW'
   replace hc:=Lib.hid hc
   clear BQ
   go_wp2_with (with_reducible refine Ao (r:=rt+1) (z:=slt0) rfl rfl (.tmp 8) (.tmp 25) rfl BR slt0 rfl rfl ?_)
   change bodyPost _ _ _ _ _ (Ac wc (rt+1) slt0)
   obtain ⟨e1,e2⟩:=Ab BR slt0
   generalize Ac wc (rt+1) slt0=w6 at *
   have hT:Ce w w6 g r p n (updS S i os) X:=⟨X',⟨pb,q0,gs,Xs',hW'.out.chg e2 fun y hy e=>by have e3:y=rt+1:=e;subst e3;exact hnr.out hy⟩,hc.out.trans e2 fun y hy e=>by have e3:y=rt+1:=e;omega,hn.out⟩
   replace hT:=Lib.hid hT
   have hE6:=EntAt.of e1
   refine bodyPost_ret (v:=.tuple #[slt0.val,.int .u64 0,.int .i64 oe]) (EC _ _ _ _ _ _ rfl rfl rfl hE6) rfl ?_
   exact ⟨rfl,hT.out⟩
end
theorem ED (F:Array Value) (q:Nat) (x:Slt) (o:Bool) (W:World) (h6:F[6]?=some (.pointer (some ⟨q,0,none⟩))) (h7:F[7]?=some (.bool o)) (hE:EntAt q x W):Sem.run Tryz.prog (results Tryz.f18 F) W=.ok (.tuple #[x.val,.bool o]) W:=by
 obtain ⟨r0,r1,r2,r3,r4,r5,r6,r7,r8,r9,r10,r11,r12,r13⟩:=hE
 simp [results,Tryz.results18,go_sem,h6,h7,r0,r1,r2,r3,r4,r5,r6,r7,r8,r9,r10,r11,r12,r13]
section
variable {w w':World} {g p n:Nat} {r:TRule} {S:Nat→TSt} {X F:Nat→Prop}
set_option maxRecDepth 100000 in
set_option maxHeartbeats 8000000 in
theorem Gt (h:DTabsP w g r p n S X) (hTI:∀ i,i<p→TI n (S i)) (t:Tup) (ht:tupWf t) (k:Nat) (hk:k<18446744073709551616) :
  Calls Tryz.prog 18 #[.pointer (some ⟨g,0,none⟩),t.val,.int .u64 (k:Int)] w fun e w'=>e=.returned (.tuple #[(Cg r n (S (pIx r t)) t k).val,.bool (Bp r n (S (pIx r t)) t k)])∧Ce w w' g r p n (updS S (pIx r t) (findSC r n (S (pIx r t)) t k)) X:=by
 obtain ⟨pb,q0,gs,Xs,hW⟩:=h
 have hlt:=fun y (hy:X y)=>hW.lt hy
 obtain ⟨-,hpl⟩:=Eu r t hW.np hW.p1 hW.p16
 have CO:=Lib.hid fun W=>Nr r.wd r.sl r.gn r.ka r.kb t ht k hk W
 obtain ⟨fV,hfV⟩:∃ v,Cg r n (S (pIx r t)) t k=v:=⟨_,rfl⟩
 obtain ⟨fO,hfO⟩:∃ v,Bp r n (S (pIx r t)) t k=v:=⟨_,rfl⟩
 obtain ⟨fS,hfS⟩:∃ v,findSC r n (S (pIx r t)) t k=v:=⟨_,rfl⟩
 rw [hfV,hfO,hfS]
 unfold Cg at hfV
 unfold Bp at hfO
 unfold findSC at hfS
 obtain ⟨sl,hsl⟩:∃ v,Cs r.wd r.sl r.gn r.ka r.kb t k=v:=⟨_,rfl⟩
 obtain ⟨gn,hgn⟩:∃ v,D4 r.wd r.sl r.gn r.ka r.kb t k=v:=⟨_,rfl⟩
 obtain ⟨ok,hok⟩:∃ v,BS r.wd r.sl r.gn r.ka r.kb t k=v:=⟨_,rfl⟩
 rw [hsl,hgn,hok] at hfV hfO CO
 rw [hsl,hok] at hfS
 have B1:=(Blk.new w 47 t.cells.toArray).alloc (.cells #[.int .i64 0,.bool false,.int .u64 0,.int .u64 0,.bool false,.int .u64 0,.int .u64 0,.int .i64 0,.int .i64 0,.int .i64 0,.int .i64 0,.int .i64 0,.int .u64 0,.int .i64 0] 52)
 have B2:Blk ((w.alloc (.cells t.cells.toArray 47)).alloc (.cells #[.int .i64 0,.bool false,.int .u64 0,.int .u64 0,.bool false,.int .u64 0,.int .u64 0,.int .i64 0,.int .i64 0,.int .i64 0,.int .i64 0,.int .i64 0,.int .u64 0,.int .i64 0] 52)) (w.alloc (.cells t.cells.toArray 47)).heap.size 52 slt0.entA:=Blk.new (w.alloc (.cells t.cells.toArray 47)) 52 slt0.entA
 have hb0:Below w.heap.size w ((w.alloc (.cells t.cells.toArray 47)).alloc (.cells #[.int .i64 0,.bool false,.int .u64 0,.int .u64 0,.bool false,.int .u64 0,.int .u64 0,.int .i64 0,.int .i64 0,.int .i64 0,.int .i64 0,.int .i64 0,.int .u64 0,.int .i64 0] 52)):=Aa (Aa (Below.refl _ _) _) _
 rw [World.size_alloc] at B2
 have h1:=hW.call hb0
 clear hW
 go_enter Tryz.func18,Tryz.ntmps18
 go_upto_region 1 with fail
 change Code.wp _ _ _ _ ((w.alloc (.cells t.cells.toArray 47)).alloc (.cells #[.int .i64 0,.bool false,.int .u64 0,.int .u64 0,.bool false,.int .u64 0,.int .u64 0,.int .i64 0,.int .i64 0,.int .i64 0,.int .i64 0,.int .i64 0,.int .u64 0,.int .i64 0] 52))
 have hw1:((w.alloc (.cells t.cells.toArray 47)).alloc (.cells #[.int .i64 0,.bool false,.int .u64 0,.int .u64 0,.bool false,.int .u64 0,.int .u64 0,.int .i64 0,.int .i64 0,.int .i64 0,.int .i64 0,.int .i64 0,.int .u64 0,.int .i64 0] 52)).heap.size=w.heap.size+2:=by rw [World.size_alloc,World.size_alloc]
 generalize (w.alloc (.cells t.cells.toArray 47)).alloc (.cells #[.int .i64 0,.bool false,.int .u64 0,.int .u64 0,.bool false,.int .u64 0,.int .u64 0,.int .i64 0,.int .i64 0,.int .i64 0,.int .i64 0,.int .i64 0,.int .u64 0,.int .i64 0] 52)=w1 at *
 obtain ⟨rt,hrt⟩:∃ rt,w.heap.size=rt:=⟨_,rfl⟩
 rw [hrt] at B1 B2 hw1
 try rw [hrt]
 have hXrt:=Lib.hid (show ∀ y,X y→y<rt from fun y hy=>by have:=hlt y hy;omega)
 have hS1:FindAt g rt r.gn t w1:=⟨h1.read.c2,TupAt.of B1⟩
 have c0:=h1.read.c0
 have c1:=h1.read.c1
 have c3:=h1.read.c3
 have c4:=h1.read.c4
 obtain ⟨c2,t0,t1,t2,t3,t4,t5,t6,t7,t8⟩:=hS1
 replace h1:=Lib.hid h1
 replace B2:=Lib.hid B2
 have HT:=Lib.hid (show FindAt g rt r.gn t w1 from ⟨h1.out.read.c2,TupAt.of B1⟩)
 replace hfV:=Lib.hid hfV
 replace hfO:=Lib.hid hfO
 replace hfS:=Lib.hid hfS
 have FIN:=Lib.hid fun (W w3:World) (os:TSt) (hb:Below w1.heap.size w1 W) (hT:DTo W w3 (gs (pIx r t)) n r.sl r.cfg (dOf n os) (Xs (pIx r t)))=>show Blk w3 (rt+1) 52 slt0.entA∧FindAt g rt r.gn t w3∧∀ x,EntAt (rt+1) x (Ac w3 (rt+1) x)∧Ce w (Ac w3 (rt+1) x) g r p n (updS S (pIx r t) os) X from by
  obtain ⟨Xs',X',k1,k2,k3⟩:=(h1.out.call hb).part hpl hT
  have hz:=hb.size
  have hX1:¬ X (rt+1):=fun e=>by have:=hXrt.out _ e;omega
  have hB3:Blk w3 (rt+1) 52 slt0.entA:=(B2.out.call hb).chg k2 hX1
  refine ⟨hB3,(HT.out.call hb).chg (DU hT) (fun e=>(h1.out.off _ hpl _ e).1 rfl) (fun e=>by have:=hXrt.out _ (h1.out.iX hpl _ e);omega),fun x=>?_⟩
  obtain ⟨e1,e2⟩:=Ab hB3 x
  have hn:¬ X' (rt+1):=fun e=>by
   rcases k3 _ e with h | h
   · exact hX1 h
   · omega
  have hkw:Chg X w w3:=((Chg.of_below hb0).trans (Chg.of_below (F:=X) hb) (fun _ _ h=>h)).trans k2 (fun _ _ h=>h)
  exact ⟨EntAt.of e1,X',⟨pb,q0,gs,Xs',k1.chg e2 fun y hy e=>by have e3:y=rt+1:=e;subst e3;exact hn hy⟩,hkw.trans e2 fun y hy e=>by have e3:y=rt+1:=e;omega,fun y hy=>(k3 y hy).imp id fun h=>by omega⟩
 clear B1 hlt hsl hgn hok
 obtain ⟨wd,hwd⟩:∃ k,r.wd=k:=⟨_,rfl⟩
 obtain ⟨ls,hls⟩:∃ k,r.sl=k:=⟨_,rfl⟩
 obtain ⟨lg,hlg⟩:∃ k,r.gn=k:=⟨_,rfl⟩
 obtain ⟨ka,hka⟩:∃ k,r.ka=k:=⟨_,rfl⟩
 obtain ⟨kb,hkb⟩:∃ k,r.kb=k:=⟨_,rfl⟩
 rw [hwd,hls,hlg,hka,hkb] at CO
 rw [hwd] at c0
 rw [hls] at c1
 rw [hlg] at c2
 rw [hka] at c3
 rw [hkb] at c4
 obtain ⟨ti,hti⟩:∃ k,t=k:=⟨_,rfl⟩
 obtain ⟨tp,v,hi,lo,v',hi',lo',sp,dp⟩:=ti
 rw [hti] at t0 t1 t2 t3 t4 t5 t6 t7 t8 CO
 replace hti:=Lib.hid hti
 go_region_held3 (fun W=>Below w1.heap.size w1 W∧W.cell? ⟨g,0,none⟩=some (.bool wd)∧W.cell? ⟨g,1,none⟩=some (.int .i64 ls)∧W.cell? ⟨g,2,none⟩=some (.int .i64 lg)∧W.cell? ⟨g,3,none⟩=some (.int .u64 ka)∧W.cell? ⟨g,4,none⟩=some (.int .u64 kb)∧W.cell? ⟨rt,0,none⟩=some (.int .i64 tp)∧W.cell? ⟨rt,1,none⟩=some (.bool v)∧W.cell? ⟨rt,2,none⟩=some (.int .u64 hi)∧W.cell? ⟨rt,3,none⟩=some (.int .u64 lo)∧W.cell? ⟨rt,4,none⟩=some (.bool v')∧W.cell? ⟨rt,5,none⟩=some (.int .u64 hi')∧W.cell? ⟨rt,6,none⟩=some (.int .u64 lo')∧W.cell? ⟨rt,7,none⟩=some (.int .i64 sp)∧W.cell? ⟨rt,8,none⟩=some (.int .i64 dp))
  (first | assumption | exact ⟨(Below.refl _ _).drew,by refine ⟨?_,?_,?_,?_,?_,?_,?_,?_,?_,?_,?_,?_,?_,?_⟩ <;> assumption⟩) (first
  | (go_at_call 86;(with_reducible refine (CO.out _).mono ?_);rintro e w4 ⟨rfl,hb4⟩;have hk4:=DY (by assumption) hb4))
 have hb14:=hk4.1
 clear hk4 c0 c1 c2 c3 c4 t0 t1 t2 t3 t4 t5 t6 t7 t8 CO hwd hls hka hkb
 cases ok
 ·
  have BR:=B2.out.call hb14
  have e1:slt0=fV:=by simpa using hfV.out
  have e2:false=fO:=by simpa using hfO.out
  have e3:S (pIx r t)=fS:=by simpa using hfS.out
  subst e1
  subst e2
  subst e3
  have hTs:=Lib.hid (h1.out.call hb14)
  clear hfV hfO hfS
  go_wp2_with (with_reducible refine Ao (r:=rt+1) (z:=slt0) rfl rfl (.tmp 6) (.tmp 30) rfl BR slt0 rfl rfl ?_)
  change bodyPost _ _ _ _ _ (Ac w4 (rt+1) slt0)
  obtain ⟨e1,e2⟩:=Ab BR slt0
  generalize Ac w4 (rt+1) slt0=w6 at *
  have hT:Ce w w6 g r p n S X:=⟨X,⟨pb,q0,gs,Xs,hTs.out.chg e2 fun y hy e=>by have e3:y=rt+1:=e;have:=hXrt.out y hy;omega⟩,((Chg.of_below hb0).trans (Chg.of_below (F:=X) hb14) (fun _ _ h=>h)).trans e2 fun y hy e=>by have e3:y=rt+1:=e;omega,fun _ h=>.inl h⟩
  have hE6:=EntAt.of e1
  refine bodyPost_ret (v:=.tuple #[slt0.val,.bool false]) (ED _ _ _ _ _ rfl rfl hE6) rfl ?_
  exact ⟨rfl,by rw [Dn];exact hT⟩
 ·
  obtain ⟨i,hi0⟩:∃ i,pIx r t=i:=⟨_,rfl⟩
  have OF:=Lib.hid fun (W:World) (hb:Below w1.heap.size w1 W)=>FI ((h1.out.call hb).read) t ht
  have TF:=Lib.hid fun (W:World) (hb:Below w1.heap.size w1 W)=>NR ((h1.out.call hb).tab (pIx r t) hpl) (hTI _ hpl) t sl gn r.gn
  have e1:findV n (S (pIx r t)) t sl gn r.gn=fV:=by simpa using hfV.out
  have e2:Be n (S (pIx r t)) t sl gn r.gn=fO:=by simpa using hfO.out
  have e3:lookS n sl (S (pIx r t))=fS:=by simpa using hfS.out
  rw [e1,e2,e3] at TF
  have hSt:FindAt g rt r.gn t w4.drew:=(HT.out.call hb14).call (Below.refl _ _).drew
  have hd:Below w1.heap.size w1 w4.drew:=hb14.drew
  have hgr:=Lib.hid (show g≠rt+1 from fun e=>by have:=h1.out.blk.lt;have:=hXrt.out g h1.out.gX;omega)
  clear hfV hfO hfS e1 e2 e3 hlg hti hb4 B2 HT hXrt h1 hk
  obtain ⟨bg,hbg⟩:∃ bg,r.gn=bg:=⟨_,rfl⟩
  rw [hbg] at TF FIN hSt
  rw [hi0] at OF TF FIN
  clear hbg
  replace hi0:=Lib.hid hi0
  go_upto_region 4 with fail
  refine wp_region_held_drew (S:=FindAt g rt bg t) (by kernel_rfl) hSt (fun hHeld=>?_)
  generalize w4.drew=wq at *
  refine tq 0 ?_;try go_frame
  refine tq 1 ?_;try go_frame
  refine tq 3 ?_;try go_frame
  refine tq 4 ?_;try go_frame
  refine tq 5 ?_;try go_frame
  refine tq 6 ?_;try go_frame
  refine tq 7 ?_;try go_frame
  refine tq 8 ?_;try go_frame
  refine tq 9 ?_;try go_frame
  refine tq 10 ?_;try go_frame
  refine tq 11 ?_;try go_frame
  refine oneH 2 fun K hK=>?_
  go_simp
  (go_at_call 81;(with_reducible refine (OF.out _ hd).mono ?_))
  rintro e w5 ⟨rfl,hb5⟩
  refine hK.out _ _ (hHeld.call hb5) (fun hHeld=>?_)
  clear hK K
  try go_frame
  refine oneH 12 fun K hK=>?_
  go_simp
  (go_at_call 87;(with_reducible refine (TF.out _ (A8 hb5 hd)).mono ?_))
  rintro e w6 ⟨rfl,hT6⟩
  obtain ⟨f1,f2,f3⟩:=FIN.out w5 w6 _ (A8 hb5 hd) hT6
  replace f3:=Lib.hid (f3 fV)
  refine hK.out _ _ f2 (fun hHeld=>?_)
  clear hK K
  try go_frame
  refine tq 13 ?_;try go_frame
  refine tq 14 ?_;try go_frame
  refine oneH 15 fun K hK=>?_
  rw [if_pos (by rfl)]
  with_reducible refine Ae (r:=rt+1) (z:=slt0) (.tmp 6) (.tmp 44) rfl f1 fV rfl rfl ?_
  refine hK.out _ _ (hHeld.chg (Ab f1 fV).2 (fun e=>?_) (fun e=>by have e3:rt=rt+1:=e;omega)) (fun hHeld=>?_)
  · exact hgr.out e
  clear hK K
  try go_frame
  refine tq 16 ?_;try go_frame
  refine wpAnyH_done (by kernel_rfl) ?_ _
  generalize Ac w6 (rt+1) fV=w7 at *
  clear hHeld
  go_wp2_with fail
  refine bodyPost_ret (v:=.tuple #[fV.val,.bool fO]) (ED _ _ _ _ _ rfl rfl f3.out.1) rfl ?_
  exact ⟨rfl,by rw [hi0.out];exact f3.out.2⟩
end
end Go.Proofs.YteklkljndchjiaaGreat
