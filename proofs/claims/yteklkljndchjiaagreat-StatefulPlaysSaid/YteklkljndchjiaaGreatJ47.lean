/- tables: the document's Go. tables: the law's helpers, and the document's Right and Small. tables: the document's New. -/
import Derived.Test.YteklkljndchjiaaGreatJ46
import Derived.Test.YteklkljndchjiaaGreatJ35
import Derived.Test.YteklkljndchjiaaGreatJ22
import Derived.Test.YteklkljndchjiaaGreatJ3
import Derived.Test.YteklkljndchjiaaGreatJ44
import Derived.Test.YteklkljndchjiaaGreatJ27
import Derived.Deep.LoopGhost
namespace Go.Proofs.YteklkljndchjiaaGreat
open Go Go.RowKit Go.Deep Go.Maps Go.ChangeMaps
section
variable {w w' w4 w5 wx:World} {g p n:Nat} {r:TRule} {S:Nat→TSt} {X:Nat→Prop}
set_option maxRecDepth 100000 in
set_option maxHeartbeats 8000000 in
theorem O3 (h:DTabsP w g r p n S X) (hTI:∀ i,i<p→TI n (S i)) (nw:Int) (hk:∀ i,i<p→goOk (S i).now nw=true) (SS:Nat→List Int) (hS:∀ i,i<p→GoS r.G (S i).now nw (S i).M (SS i)) (hSl:∀ i,i<p→(SS i).length≤4096) :
  Calls Tryz.prog 22 #[.pointer (some ⟨g,0,none⟩),.int .i64 nw] w fun e w'=>∃ (A:Option Addr) (a:Nat),e=.returned (.tuple #[.slice A (catF (fun i=>Au (S i) (SS i)) p).length a,.int .i64 0])∧OwnE w' w.heap.size A a (catF (fun i=>Au (S i) (SS i)) p)∧Mr w w' A g r p n (fun i=>goTab n (S i) nw (SS i)) X:=by
 obtain ⟨pb,q,gs,Xs,h⟩:=h
 have hp16:=h.p16
 have R0:DRound w X g r p n pb q gs S (fun i=>goTab n (S i) nw (SS i)) (fun i=>Au (S i) (SS i)) 0 w none 0 X:=⟨OwnA.nil _ _,by simp [catF],⟨Xs,by rw [F8];exact h⟩,Chg.refl _ _,fun y hy=>.inl hy,fun y _ e=>by obtain ⟨ad,e,-⟩:=e;cases e⟩
 replace hTI:=Lib.hid hTI
 replace hk:=Lib.hid hk
 replace hS:=Lib.hid hS
 replace hSl:=Lib.hid hSl
 clear h
 go_enter Tryz.func22,Tryz.ntmps22
 go_wp2_with fail
 go_loopg [6,7] p (fun gk sv iv wx=>∃ (j:Nat) (A:Option Addr) (a:Nat) (X1:Nat→Prop),j+gk=p∧iv=.int .i64 (j:Nat)∧sv=.slice A (catF (fun i=>Au (S i) (SS i)) j).length a∧DRound w X g r p n pb q gs S (fun i=>goTab n (S i) nw (SS i)) (fun i=>Au (S i) (SS i)) j wx A a X1)
 case atStart=>exact ⟨0,none,0,X,by omega,rfl,rfl,R0⟩
 case round =>
  obtain ⟨j,A,a,X1,hj,rfl,rfl,hR⟩:=hrel
  clear R0
  obtain ⟨Xs1,h1⟩:=hR.tab
  have c11:=h1.read.c11
  by_cases hjp:j<p
  ·
   have hji:(j:Int)<(p:Int):=by omega
   have cj:=h1.read.ps j hjp
   have h2:=h1.tab j hjp
   rw [Hx] at h2
   have DR:=Lib.hid (Mj h2 (hTI.out j hjp) nw (hS.out j hjp))
   have hl2:(Au (S j) (SS j)).length≤4096:=by unfold Au;rw [List.length_map];exact hSl.out j hjp
   have hl3:j * 4096≤16 * 4096:=Nat.mul_le_mul_right _ (by omega)
   have hl1:=hR.len
   have hwj:wrap64 ((j:Int)+1)=(j:Int)+1:=by unfold wrap64;omega
   have hO:=hR.own
   have hzc:=hR.chg.size
   have hln:(catF (fun i=>Au (S i) (SS i)) (j+1)).length=(catF (fun i=>Au (S i) (SS i)) j).length+(Au (S j) (SS j)).length:=by rw [catF,List.length_append]
   have FIN:=Lib.hid fun (w4 w5:World) (A':Option Addr) (a':Nat) (hT:DTo wr w4 (gs j) n r.sl r.cfg (dOf n (goTab n (S j) nw (SS j))) (Xs1 j))=>show OwnE w4 w.heap.size A a (catF (fun i=>Au (S i) (SS i)) j)∧w.heap.size≤w4.heap.size∧(OwnE w5 w.heap.size A' a' (catF (fun i=>Au (S i) (SS i)) j ++ Au (S j) (SS j))→Pushed w4 w5 A A'→∃ X2,DRound w X g r p n pb q gs S (fun i=>goTab n (S i) nw (SS i)) (fun i=>Au (S i) (SS i)) (j+1) w5 A' a' X2) from by
    obtain ⟨Xs2,X2,k1,k2,k3⟩:=h1.part hjp hT
    exact ⟨OwnA.chg hO k2 fun b hb e=>hR.off _ e hb,by have:=k2.size;omega,fun hO' hP=>⟨X2,hR.next k1 k2 k3 hl2 hO' hP⟩⟩
   generalize hL0:catF (fun i=>Au (S i) (SS i)) j=L0 at FIN hl1 hln ⊢
   generalize hL1:Au (S j) (SS j)=L1 at FIN hl2 hln ⊢
   have DR2:Hid (Calls Tryz.prog 92 #[.pointer (some ⟨gs j,0,none⟩),.int .i64 nw] wr fun e w'=>∃ (A:Option Addr) (q:Nat),e=.returned (.tuple #[.slice A L1.length q,.int .i64 0])∧OwnE w' wr.heap.size A q L1∧DTo wr w' (gs j) n r.sl r.cfg (dOf n (goTab n (S j) nw (SS j))) (Xs1 j)):=Lib.hid (by
    have h9:=DR.out
    unfold goE at h9
    rw [hk.out j hjp,if_pos rfl,show (SS j).length=(Au (S j) (SS j)).length from by unfold Au;rw [List.length_map],hL1] at h9
    exact h9)
   replace hln:=Lib.hid hln
   clear h1 h2 hR hO DR hL0 hL1
   go_wp2_with (first
    | (go_at_call 92;(with_reducible refine DR2.out.mono ?_);rintro e w4 ⟨A2,q2,rfl,hO2,hT2⟩)
    | (at_builtin;(refine Aw rfl (.tmp 34) (.tmp 35) rfl w.heap.size A a L0 L0.length rfl rfl (FIN.out w4 w4 none 0 hT2).1 A2 q2 L1 L1.length rfl rfl hO2.reads (by omega) (FIN.out w4 w4 none 0 hT2).2.1 ?_;intro A9 a9 w9 hO9 hP9)))
   obtain ⟨X2,hR2⟩:=(FIN.out w4 w9 A9 a9 hT2).2.2 hO9 hP9
   go_roundg (gk - 1)
   case measure=>omega
   case rel=>exact ⟨j+1,A9,a9,X2,by omega,by go_num,by rw [hln.out],hR2⟩
  ·
   obtain rfl:j=p:=by omega
   have hji:¬ (j:Int)<(j:Int):=by omega
   clear h1
   go_wp2_with fail
   go_ret2
   obtain ⟨Xs2,h2⟩:=hR.tab
   exact ⟨A,a,rfl,hR.own,X1,⟨_,_,_,_,h2.congr fun i hi=>if_pos hi⟩,hR.chg,hR.new,hR.off⟩
set_option maxRecDepth 100000 in
set_option maxHeartbeats 8000000 in
theorem Jg (h:DTabsP w g r p n S X) (hTI:∀ i,i<p→TI n (S i)) (nw:Int) (hk:goOk (S 0).now nw=false) :
  Calls Tryz.prog 22 #[.pointer (some ⟨g,0,none⟩),.int .i64 nw] w fun e w'=>e=.returned (.tuple #[.slice none 0 0,.int .i64 15])∧Ce w w' g r p n S X:=by
 obtain ⟨pb,q,gs,Xs,h⟩:=h
 have hp:0<p:=by have:=h.p1;omega
 have hpi:(0:Int)<(p:Int):=by omega
 have c11:=h.read.c11
 have cj:=h.read.ps 0 hp
 have hG:GoS r.G (S 0).now nw (S 0).M []:=⟨fun _=>rfl,fun e=>(by rw [hk] at e;cases e),List.nodup_nil,List.Pairwise.nil⟩
 have DR:=Mj (h.tab 0 hp) (hTI 0 hp) nw hG
 have h15:goE (S 0).now nw=15:=by unfold goE;rw [hk];rfl
 rw [h15,Mo hk] at DR
 replace DR:=Lib.hid DR
 replace h:=Lib.hid h
 clear hk hG h15 hTI
 go_enter Tryz.func22,Tryz.ntmps22
 go_wp2_with fail
 go_loopg [6,7] 1 (fun gk sv iv wx=>gk=1∧iv=.int .i64 0∧sv=.slice none 0 0∧w=wx)
 case atStart=>exact ⟨rfl,rfl,rfl,rfl⟩
 case round =>
  obtain ⟨rfl,rfl,rfl,rfl⟩:=hrel
  go_wp2_with (go_at_call 92;(with_reducible refine DR.out.mono ?_);rintro e w4 ⟨A2,q2,rfl,-,hT2⟩)
  go_ret2
  obtain ⟨Xs2,X2,k1,k2,k3⟩:=h.out.part hp hT2
  rw [Dn] at k1
  exact ⟨rfl,X2,⟨_,_,_,_,k1⟩,k2,k3⟩
end
end Go.Proofs.YteklkljndchjiaaGreat
namespace Go.Proofs.YteklkljndchjiaaGreat
open Go Go.RowKit Go.Deep Go.Maps Go.ChangeMaps Go.ChangeShapes Go.WideShapes
set_option maxRecDepth 100000 in
set_option maxHeartbeats 8000000 in
theorem EM (r:TRule) (w:World):Calls Tryz.prog 7 #[r.val] w fun e w'=>e=.returned (.bool (AF r))∧Below w.heap.size w w':=by
 have CR:=Lib.hid fun W=>DK r.wd r.sl r.gn W
 have RT:=Lib.hid fun W=>G5 r.a r.b r.c r.d W
 have WG:=Lib.hid fun (h:1≤r.G∧r.G≤1024) W=>Gq r.G W h
 have WB:=Lib.hid fun (h:r.G<1∨1024<r.G) W=>GH r.G W h
 obtain ⟨x,hx⟩:∃ x,AF r=x:=⟨_,rfl⟩
 rw [hx]
 unfold AF at hx
 obtain ⟨lo,hlo⟩:∃ x,layOk r.wd r.sl r.gn=x:=⟨_,rfl⟩
 obtain ⟨ro,hro⟩:∃ x,Du r.a r.b r.c r.d=x:=⟨_,rfl⟩
 rw [hlo] at CR hx
 rw [hro] at RT hx
 have R0:=Blk.new w 30 r.cells.toArray
 have hb0:Below w.heap.size w (w.alloc (.cells r.cells.toArray 30)):=Aa (Below.refl _ _) _
 obtain ⟨wd,sl,gn,ka,kb,np,a,b,c,d,G⟩:=r
 dsimp only at *
 clear hlo hro
 replace hx:=Lib.hid hx
 go_enter Tryz.func7,Tryz.ntmps7
 go_upto_region 1 with fail
 change Code.wp _ _ _ _ (w.alloc (.cells (TRule.cells ⟨wd,sl,gn,ka,kb,np,a,b,c,d,G⟩).toArray 30))
 generalize w.alloc (.cells (TRule.cells ⟨wd,sl,gn,ka,kb,np,a,b,c,d,G⟩).toArray 30)=w0 at *
 obtain ⟨rb,hrb⟩:∃ r,w.heap.size=r:=⟨_,rfl⟩
 rw [hrb] at R0
 try rw [hrb]
 have RC:=Lib.hid fun W (h:Below w0.heap.size w0 W)=>RuleAt.of (R0.call h)
 obtain ⟨c0,c1,c2,c3,c4,c5,c6,c7,c8,c9,c10⟩:=RC.out w0 (Below.refl _ _)
 clear R0
 dsimp only at *
 cases lo
 ·
  obtain rfl:false=x:=by simpa using hx.out
  go_wp2_with (go_at_call 71;(with_reducible refine (CR.out _).mono ?_);rintro e w1 ⟨rfl,hb1⟩)
  go_ret
  exact ⟨rfl,bw⟩
 ·
  by_cases n1:1≤np
  ·
   have y1:decide (1≤np)=true:=by simpa using n1
   by_cases n2:np≤16
   ·
    have y2:decide (np≤16)=true:=by simpa using n2
    cases ro
    ·
     obtain rfl:false=x:=by simpa using hx.out
     go_wp2_with (first
      | (go_at_call 71;(with_reducible refine (CR.out _).mono ?_);rintro e w1 ⟨rfl,hb1⟩;clear c0 c1 c2 c3 c4 c5 c6 c7 c8 c9 c10;obtain ⟨c0,c1,c2,c3,c4,c5,c6,c7,c8,c9,c10⟩:=RC.out _ hb1)
      | (go_at_call 72;(with_reducible refine (RT.out _).mono ?_);rintro e w2 ⟨rfl,hb2⟩))
     go_ret
     exact ⟨rfl,bw⟩
    ·
     by_cases hG:1≤G∧G≤1024
     ·
      obtain rfl:true=x:=by
       have:=hx.out
       simp at this
       rw [← this]
       simp
       omega
      have WN:=Lib.hid (WG.out hG)
      clear WG WB
      go_wp2_with (first
       | (go_at_call 71;(with_reducible refine (CR.out _).mono ?_);rintro e w1 ⟨rfl,hb1⟩;clear c0 c1 c2 c3 c4 c5 c6 c7 c8 c9 c10;obtain ⟨c0,c1,c2,c3,c4,c5,c6,c7,c8,c9,c10⟩:=RC.out _ hb1)
       | (go_at_call 72;(with_reducible refine (RT.out _).mono ?_);rintro e w2 ⟨rfl,hb2⟩;clear c0 c1 c2 c3 c4 c5 c6 c7 c8 c9 c10;obtain ⟨c0,c1,c2,c3,c4,c5,c6,c7,c8,c9,c10⟩:=RC.out _ (A8 hb2 hb1))
       | (go_at_call 73;(with_reducible refine (WN.out _).mono ?_);rintro e w3 ⟨rfl,-,hb3⟩))
      go_ret
      exact ⟨rfl,bw⟩
     ·
      obtain rfl:false=x:=by
       have:=hx.out
       simp at this
       rw [← this]
       simp
       omega
      have WN:=Lib.hid (WB.out (by omega))
      clear WG WB
      go_wp2_with (first
       | (go_at_call 71;(with_reducible refine (CR.out _).mono ?_);rintro e w1 ⟨rfl,hb1⟩;clear c0 c1 c2 c3 c4 c5 c6 c7 c8 c9 c10;obtain ⟨c0,c1,c2,c3,c4,c5,c6,c7,c8,c9,c10⟩:=RC.out _ hb1)
       | (go_at_call 72;(with_reducible refine (RT.out _).mono ?_);rintro e w2 ⟨rfl,hb2⟩;clear c0 c1 c2 c3 c4 c5 c6 c7 c8 c9 c10;obtain ⟨c0,c1,c2,c3,c4,c5,c6,c7,c8,c9,c10⟩:=RC.out _ (A8 hb2 hb1))
       | (go_at_call 73;(with_reducible refine (WN.out _).mono ?_);rintro e w3 ⟨rfl,rfl⟩))
      go_ret
      exact ⟨rfl,bw⟩
   ·
    have y2:decide (np≤16)=false:=by simpa using n2
    obtain rfl:false=x:=by
     have:=hx.out
     simp at this
     rw [← this]
     simp
     omega
    go_wp2_with (go_at_call 71;(with_reducible refine (CR.out _).mono ?_);rintro e w1 ⟨rfl,hb1⟩;clear c0 c1 c2 c3 c4 c5 c6 c7 c8 c9 c10;obtain ⟨c0,c1,c2,c3,c4,c5,c6,c7,c8,c9,c10⟩:=RC.out _ hb1)
    go_ret
    exact ⟨rfl,bw⟩
  ·
   have y1:decide (1≤np)=false:=by simpa using n1
   obtain rfl:false=x:=by
    have:=hx.out
    simp at this
    rw [← this]
    simp
    omega
   go_wp2_with (go_at_call 71;(with_reducible refine (CR.out _).mono ?_);rintro e w1 ⟨rfl,hb1⟩;clear c0 c1 c2 c3 c4 c5 c6 c7 c8 c9 c10;obtain ⟨c0,c1,c2,c3,c4,c5,c6,c7,c8,c9,c10⟩:=RC.out _ hb1)
   go_ret
   exact ⟨rfl,bw⟩
structure T20 where
 kd:Int
 tu:Tup
 n:Int
 bk:Int
 ck:Int
 pk:Int
abbrev T20.cells (x:T20):List Value:=[.int .i64 x.kd,.int .i64 x.tu.p,.bool x.tu.v,.int .u64 x.tu.hi,.int .u64 x.tu.lo,.bool x.tu.v',.int .u64 x.tu.hi',.int .u64 x.tu.lo',.int .i64 x.tu.sp,.int .i64 x.tu.dp,.int .i64 x.n,.int .i64 x.bk,.int .u64 x.ck,.int .i64 x.pk]
abbrev T20.val (x:T20):Value:=.agg x.cells.toArray
def t20Wf (x:T20):Prop:=(0≤x.ck∧x.ck<18446744073709551616)∧tupWf x.tu
abbrev OwnU (w:World) (base:Nat) (A:Option Addr) (c:Nat) (l:List Int):Prop:=OwnA (fun x=>[.int .u64 x]) 1 24 w base A c l
theorem RB (l:List Int):l.flatMap (fun x=>[Value.int .u64 x])=l.map (.int .u64):=by
 induction l with
 | nil=>rfl
 | cons a l ih=>rw [List.flatMap_cons,ih];rfl
theorem RD {w:World} {B:Nat} {A:Option Addr} {l:List T20} (h:Reads w B 14 A l.length (l.flatMap T20.cells)) {k:Nat} (hk:k<l.length) :
  ∃ ad s,A=some ad∧ad.block<B∧l[k]?=some s∧(w.cell? (ad.add (k * 14))=some (.int .i64 s.kd)∧w.cell? ⟨(ad.add (k * 14)).block,(ad.add (k * 14)).off+1,none⟩=some (.int .i64 s.tu.p)∧w.cell? ⟨(ad.add (k * 14)).block,(ad.add (k * 14)).off+2,none⟩=some (.bool s.tu.v)∧w.cell? ⟨(ad.add (k * 14)).block,(ad.add (k * 14)).off+3,none⟩=some (.int .u64 s.tu.hi)∧w.cell? ⟨(ad.add (k * 14)).block,(ad.add (k * 14)).off+4,none⟩=some (.int .u64 s.tu.lo)∧w.cell? ⟨(ad.add (k * 14)).block,(ad.add (k * 14)).off+5,none⟩=some (.bool s.tu.v')∧w.cell? ⟨(ad.add (k * 14)).block,(ad.add (k * 14)).off+6,none⟩=some (.int .u64 s.tu.hi')∧w.cell? ⟨(ad.add (k * 14)).block,(ad.add (k * 14)).off+7,none⟩=some (.int .u64 s.tu.lo')∧w.cell? ⟨(ad.add (k * 14)).block,(ad.add (k * 14)).off+8,none⟩=some (.int .i64 s.tu.sp)∧w.cell? ⟨(ad.add (k * 14)).block,(ad.add (k * 14)).off+9,none⟩=some (.int .i64 s.tu.dp)∧w.cell? ⟨(ad.add (k * 14)).block,(ad.add (k * 14)).off+10,none⟩=some (.int .i64 s.n)∧w.cell? ⟨(ad.add (k * 14)).block,(ad.add (k * 14)).off+11,none⟩=some (.int .i64 s.bk)∧w.cell? ⟨(ad.add (k * 14)).block,(ad.add (k * 14)).off+12,none⟩=some (.int .u64 s.ck)∧w.cell? ⟨(ad.add (k * 14)).block,(ad.add (k * 14)).off+13,none⟩=some (.int .i64 s.pk)):=by
 obtain ⟨ad,rfl,hb,hc⟩:=h.rec_at T20.cells (fun _=>rfl) hk
 exact ⟨ad,l[k],rfl,hb,List.getElem?_eq_getElem hk,hc 0 _ rfl,hc 1 _ rfl,hc 2 _ rfl,hc 3 _ rfl,hc 4 _ rfl,hc 5 _ rfl,hc 6 _ rfl,hc 7 _ rfl,hc 8 _ rfl,hc 9 _ rfl,hc 10 _ rfl,hc 11 _ rfl,hc 12 _ rfl,hc 13 _ rfl⟩
theorem Qs:(Tryz.prog.info? 24).map (fun i=>(i.zero,i.size,i.bytes))=some (some (.int .u64 0),1,8):=by kernel_rfl
theorem Hs {W:World} {cs:Array Value} {ops:Array Oper} {rest:List Oper} {o:Oper} {a:Act} {Q:Exit→Act→World→Prop} (hgd:o.guard=none) (s x:Operand)
  (ho:o.op=.call { callee:=.builtin .append,args:=#[s,x],argTypes:=#[43,43] })
  (base:Nat) (A:Option Addr) (c:Nat) (l:List Int) (v:Int) (n:Nat) (hn:l.length=n) (hs:a.eval s=.slice A n c) (hown:OwnU W base A c l) (g:Nat) (hg:g=W.heap.size) (hcs:([Value.int .u64 v]).toArray=cs)
  (hx:a.eval x=.slice (some ⟨g,0,none⟩) 1 1) (hl:l.length≤1000000) (hbase:base≤W.heap.size)
  (h:∀ A' c' w',OwnU w' base A' c' (l ++ [v])→Pushed W w' A A'→wpList Tryz.prog ops Q rest (a.put o.dst (.slice A' (n+1) c')) w'):wpList Tryz.prog ops Q (o :: rest) a (W.alloc (.cells cs 24)):=by
 obtain ⟨i0,hi0,hz0,hz1,hz2⟩:=info_parts Qs
 exact CQ (fun x:Int=>[Value.int .u64 x]) 1 (fun _=>rfl) (fun b u hu=>by
  simp at hu;subst hu;rfl) (by omega) 43 i0 _ 8 Tryz.underlying43 hi0 hz0 hz1 hz2 rfl (by omega) hgd s x ho base A c l v n hn hs hown g hg hcs hx hl hbase h
theorem KP (x y:Slt) (w:World):(binOp .neq 52 x.val y.val).run Tryz.prog w=.ok (.bool (!entB x y)) w:=by
 have h:=P6 x y w
 rw [run_eql_struct] at h
 rw [run_neq_struct]
 cases hh:(Op.equalIn 10000 52 x.val y.val).run Tryz.prog w with
 | ok b w' =>
  rw [hh] at h
  simp only [Result.andThen] at h ⊢
  simp only [Result.ok.injEq,Value.bool.injEq] at h
  obtain ⟨rfl,rfl⟩:=h
  rfl
 | _=>rw [hh] at h;simp [Result.andThen] at h
theorem entB_self (x:Slt):entB x x=true:=by
 unfold entB
 simp [Io]
end Go.Proofs.YteklkljndchjiaaGreat
namespace Go.Proofs.YteklkljndchjiaaGreat
open Go Go.RowKit Go.Deep Go.Maps Go.ChangeMaps
set_option maxRecDepth 100000 in
set_option maxHeartbeats 8000000 in
theorem Hj (r:TRule) (hr:AF r=true) (w:World):Calls Tryz.prog 12 #[r.val] w fun e w'=>∃ g X,e=.returned (.pointer (some ⟨g,0,none⟩))∧DTabsP w' g r r.np.toNat (2 ^ r.sl.toNat) (fun _=>sT0 (2 ^ r.sl.toNat)) X∧Below w.heap.size w w'∧∀ y,X y→w.heap.size≤y:=by
 have RT:=Lib.hid fun W=>EM r W
 rw [hr] at RT
 have R0:=Blk.new w 30 r.cells.toArray
 have hb0:Below w.heap.size w (w.alloc (.cells r.cells.toArray 30)):=Aa (Below.refl _ _) _
 obtain ⟨wd,sl,gn,ka,kb,np,a,b,c,d,G⟩:=r
 unfold AF at hr
 dsimp only at *
 simp only [Bool.and_eq_true,decide_eq_true_eq] at hr
 obtain ⟨⟨⟨hL,hN⟩,hI⟩,hG⟩:=hr
 obtain ⟨sb,gb,rfl,rfl,hs12,-⟩:=C9 hL
 obtain ⟨p,rfl⟩:∃ p:Nat,np=p:=⟨np.toNat,by omega⟩
 rw [Int.toNat_natCast,Int.toNat_natCast]
 have TN:=Lib.hid fun W=>Rw sb hs12 a b c d hI G hG W
 have hp1:1≤p:=by omega
 have hp16:p≤16:=by omega
 clear hL hN hI hG
 obtain ⟨n,hn⟩:∃ n,2 ^ sb=n:=⟨_,rfl⟩
 rw [hn] at TN
 rw [hn]
 clear hn
 obtain ⟨rr,hrr⟩:∃ rr:TRule,(⟨wd,sb,gb,ka,kb,p,a,b,c,d,G⟩:TRule)=rr:=⟨_,rfl⟩
 rw [hrr] at R0 hb0
 rw [hrr]
 go_enter Tryz.func12,Tryz.ntmps12
 go_upto_region 1 with fail
 have hw0:(w.alloc (.cells rr.cells.toArray 30)).heap.size=w.heap.size+1:=World.size_alloc _ _
 generalize w.alloc (.cells rr.cells.toArray 30)=w0 at *
 obtain ⟨rb,hrb⟩:∃ r,w.heap.size=r:=⟨_,rfl⟩
 rw [hrb] at R0 hw0
 try rw [hrb]
 have RC:=Lib.hid fun W (h:Below w0.heap.size w0 W)=>RuleAt.of (R0.call h)
 clear R0
 rw [← hrr] at RC
 try dsimp only at RC
 obtain ⟨c0,c1,c2,c3,c4,c5,c6,c7,c8,c9,c10⟩:=RC.out w0 (Below.refl _ _)
 replace hrr:=Lib.hid hrr
 have hnp:rr.np=(p:Int):=by rw [← hrr.out]
 have hcf:rr.cfg=⟨a,b,c,d,G⟩:=by rw [← hrr.out]
 replace hnp:=Lib.hid hnp
 replace hcf:=Lib.hid hcf
 have hsl2:=Lib.hid (show rr.sl=(sb:Int) from by rw [← hrr.out])
 go_upto_region 4 with (go_at_call 7;(with_reducible refine (RT.out _).mono ?_);rintro e w1 ⟨rfl,hb1⟩;clear c0 c1 c2 c3 c4 c5 c6 c7 c8 c9 c10;obtain ⟨c0,c1,c2,c3,c4,c5,c6,c7,c8,c9,c10⟩:=RC.out w1 hb1)
 have T0:=Blk.new w1 124 #[.bool wd,.int .i64 (sb:Int),.int .i64 (gb:Int),.int .u64 ka,.int .u64 kb,.int .i64 (p:Int),.int .i64 a,.int .i64 b,.int .i64 c,.int .i64 d,.int .i64 G,.slice none 0 0]
 have hb2:Below w1.heap.size w1 (w1.alloc (.cells #[.bool wd,.int .i64 (sb:Int),.int .i64 (gb:Int),.int .u64 ka,.int .u64 kb,.int .i64 (p:Int),.int .i64 a,.int .i64 b,.int .i64 c,.int .i64 d,.int .i64 G,.slice none 0 0] 124)):=Aa (Below.refl _ _) _
 have hb02:=A8 hb2 hb1
 have hz2:(w1.alloc (.cells #[.bool wd,.int .i64 (sb:Int),.int .i64 (gb:Int),.int .u64 ka,.int .u64 kb,.int .i64 (p:Int),.int .i64 a,.int .i64 b,.int .i64 c,.int .i64 d,.int .i64 G,.slice none 0 0] 124)).heap.size=w1.heap.size+1:=World.size_alloc _ _
 obtain ⟨g,hg⟩:∃ g,w1.heap.size=g:=⟨_,rfl⟩
 rw [hg] at T0 hz2
 try rw [hg]
 generalize w1.alloc (.cells #[.bool wd,.int .i64 (sb:Int),.int .i64 (gb:Int),.int .u64 ka,.int .u64 kb,.int .i64 (p:Int),.int .i64 a,.int .i64 b,.int .i64 c,.int .i64 d,.int .i64 G,.slice none 0 0] 124)=w2 at *
 have hgw:rb+1≤g:=by have:=hb1.size;omega
 have hM0:DMakeW w2 w2.heap.size g rr n 0 none 0 (fun _=>0) (fun _ _=>False) :=
  ⟨by rw [← hrr.out];exact T0,OwnA.nil _ _,fun i hi=>by omega,fun i hi=>by omega,fun i j hi=>by omega,by omega,Nat.le_refl _⟩
 clear T0 hb1 hb2 hg c0 c1 c2 c3 c4 c5 c6 c7 c8 c9 c10 RT
 obtain ⟨c0,c1,c2,c3,c4,c5,c6,c7,c8,c9,c10⟩:=RC.out w2 hb02
 replace hM0:=Lib.hid hM0
 go_wp2_with fail
 go_loopg [4] p (fun gk iv wr=>∃ (k:Nat) (A:Option Addr) (q:Nat) (gs:Nat→Nat) (Xs:Nat→Nat→Prop),k+gk=p∧iv=.int .i64 (k:Nat)∧DMakeW wr w2.heap.size g rr n k A q gs Xs∧Below w0.heap.size w0 wr)
 case atStart=>exact ⟨0,none,0,_,_,by omega,rfl,hM0.out,hb02⟩
 case round =>
  obtain ⟨k,A,q,gs,Xs,hk,rfl,hM,hbr⟩:=hrel
  clear hM0 c0 c1 c2 c3 c4 c5 c6 c7 c8 c9 c10
  obtain ⟨c0,c1,c2,c3,c4,c5,c6,c7,c8,c9,c10⟩:=RC.out wr hbr
  by_cases hlt:k<p
  ·
   have hlti:(k:Int)<(p:Int):=by omega
   have hDW:=hM.DW
   have hgD:=hM.gD
   have hgm:∀ W,Below wr.heap.size wr W→W.cell? ⟨g,11,none⟩=some (.slice A k q):=fun W hb=>by
    have:=(hM.call hb).blk.cell 11
    simpa using this
   have hd:Below wr.heap.size wr wr.drew:=(Below.refl _ _).drew
   have hSt:RuleAt rb ⟨wd,sb,gb,ka,kb,p,a,b,c,d,G⟩ wr.drew:=RC.out _ (A8 hd hbr)
   have FINM:=Lib.hid fun (w3 w4:World) (g1:Nat) (X1:Nat→Prop) (A1:Option Addr) (q1:Nat) (hb:Below wr.heap.size wr w3) (hT:DTabP w3 g1 n rr.sl rr.cfg (dOf n (sT0 n)) X1) (hX1:∀ y,X1 y→wr.heap.size≤y) (hO:OwnD w4 w2.heap.size A1 q1 ((List.range k).map gs ++ [g1])) (hP:Pushed w3 w4 A A1) =>
    show (w4.cell? ⟨g,11,none⟩=some (.slice A k q)∧w4.frozen? ⟨g,11,none⟩=false)∧RuleAt rb ⟨wd,sb,gb,ka,kb,p,a,b,c,d,G⟩ w4∧RuleAt rb ⟨wd,sb,gb,ka,kb,p,a,b,c,d,G⟩ (w4.setCell ⟨g,11,none⟩ (.slice A1 (k+1) q1))∧∃ (gs':Nat→Nat) (Xs':Nat→Nat→Prop),DMakeW (w4.setCell ⟨g,11,none⟩ (.slice A1 (k+1) q1)) w2.heap.size g rr n (k+1) A1 q1 gs' Xs'∧Below w0.heap.size w0 (w4.setCell ⟨g,11,none⟩ (.slice A1 (k+1) q1)) from by
    have hM3:=hM.call hb
    have hAg:∀ y,InB A y→w2.heap.size≤y:=fun y hy=>(hM3.own.block hy).1
    have hg4:=hM3.blk.chg hP.chg (fun e=>by have:=hAg _ e;omega)
    have b4:Below w0.heap.size w0 w4:=hP.below (A8 hb hbr) (by have:=hb.size;omega) (fun b hb=>by have:=hAg b hb;omega)
    have b5:Below w0.heap.size w0 (w4.setCell ⟨g,11,none⟩ (.slice A1 (k+1) q1)):=Ar b4 (Chg.setCell (F:=(·=g)) (p:=⟨g,11,none⟩) (Chg.refl _ _) (fun _=>rfl) _) (fun y hy e=>by have e2:y=g:=e;omega) (by have:=b4.size;omega)
    exact ⟨⟨by have:=hg4.cell 11;simpa using this,hg4.frozen 11⟩,RC.out _ b4,RC.out _ b5,(hM.step hb hT hX1 hO hP rfl).imp fun gs' h=>h.imp fun Xs' h=>⟨h,b5⟩⟩
   obtain ⟨i0,hi0,hz0,hz1,hz2⟩:=info_parts NU
   have hown:=Lib.hid fun W (hb:Below wr.heap.size wr W)=>(hM.call hb).own
   replace hgm:=Lib.hid hgm
   go_upto_region 7 with fail
   clear c0 c1 c2 c3 c4 c5 c6 c7 c8 c9 c10 hM
   refine wp_region_held_drew (S:=RuleAt rb ⟨wd,sb,gb,ka,kb,p,a,b,c,d,G⟩) (by kernel_rfl) hSt (fun hHeld=>?_)
   have hcall:=Lib.hid fun (W W':World) (h:RuleAt rb ⟨wd,sb,gb,ka,kb,p,a,b,c,d,G⟩ W) (hb:Below W.heap.size W W')=>(show RuleAt rb ⟨wd,sb,gb,ka,kb,p,a,b,c,d,G⟩ W' from by
    have k:∀ {a:Addr} {v:Value},W.cell? a=some v→W'.cell? a=some v:=fun e=>(hb.cell (A0 e)).trans e
    obtain ⟨h0,h1,h2,h3,h4,h5,h6,h7,h8,h9,h10⟩:=h
    exact ⟨k h0,k h1,k h2,k h3,k h4,k h5,k h6,k h7,k h8,k h9,k h10⟩)
   generalize wr.drew=wq at *
   refine tq 0 ?_;try go_frame
   refine tq 1 ?_;try go_frame
   refine tq 2 ?_;try go_frame
   refine tq 3 ?_;try go_frame
   refine tq 5 ?_;try go_frame
   refine tq 6 ?_;try go_frame
   refine tq 7 ?_;try go_frame
   refine tq 8 ?_;try go_frame
   refine tq 9 ?_;try go_frame
   refine tq 10 ?_;try go_frame
   refine tq 11 ?_;try go_frame
   refine wpAnyH_ready (rs:=[4,12]) (by kernel_rfl) (by simp) ?_;refine consH rfl (fun K hK=>?_) (consH rfl (fun K hK=>?_) AllReadyH.nil)
   ·
    have g11:=hgm.out wq hd
    go_simp
    refine hK.out _ _ hHeld (fun hHeld=>?_)
    clear hK K g11
    try go_frame
    refine oneH 12 fun K hK=>?_
    go_simp
    (go_at_call 75;(with_reducible refine (TN.out _).mono ?_))
    rintro e w3 ⟨g1,X1,rfl,hT,hb3,hX1⟩
    have hb3w:=A8 hb3 hd
    refine hK.out _ _ (hcall.out _ _ hHeld hb3) (fun hHeld=>?_)
    clear hK K
    try go_frame
    refine oneH 13 fun K hK=>?_
    go_simp
    refine hK.out _ _ (hcall.out _ _ hHeld (Aa (Below.refl w3.heap.size w3) _)) (fun hHeld=>?_)
    clear hK K
    try go_frame
    refine oneH 14 fun K hK=>?_
    refine EU II 1 (fun _=>rfl) (fun b u hu=>by simp at hu;subst hu;rfl) (by omega) 122 i0 _ 8 Tryz.underlying122 hi0 hz0 hz1 hz2 rfl (by omega) rfl (.tmp 21) (.tmp 30) rfl w2.heap.size A q ((List.range k).map gs) g1 k (by simp) rfl (hown.out _ hb3w) w3.heap.size rfl rfl rfl (by simp;omega) (by have:=hb3w.size;omega) ?_
    intro A1 q1 w4 hO4 hP4
    obtain ⟨⟨c11,d11⟩,s4,s5,gs',Xs',hM',b5⟩:=FINM.out w3 w4 g1 X1 A1 q1 hb3w (by rw [hcf.out,hsl2.out];exact hT) (fun y hy=>by have:=hX1 y hy;have:=hd.size;omega) hO4 hP4
    refine hK.out _ _ s4 (fun hHeld=>?_)
    clear hK K
    try go_frame
    refine tq 15 ?_;try go_frame
    refine tq 16 ?_;try go_frame
    refine oneH 17 fun K hK=>?_
    go_simp
    refine hK.out _ _ s5 (fun hHeld=>?_)
    clear hK K hHeld c11 d11
    try go_frame
    refine wpAnyH_done (by kernel_rfl) ?_ _
    go_wp2_with fail
    go_roundg (gk - 1)
    case measure=>omega
    case rel=>exact ⟨k+1,A1,q1,gs',Xs',by omega,by go_num,hM',b5⟩
   ·
    go_simp
    (go_at_call 75;(with_reducible refine (TN.out _).mono ?_))
    rintro e w3 ⟨g1,X1,rfl,hT,hb3,hX1⟩
    have hb3w:=A8 hb3 hd
    refine hK.out _ _ (hcall.out _ _ hHeld hb3) (fun hHeld=>?_)
    clear hK K
    try go_frame
    refine wpAnyH_ready (rs:=[4,13]) (by kernel_rfl) (by simp) ?_;refine consH rfl (fun K hK=>?_) (consH rfl (fun K hK=>?_) AllReadyH.nil)
    ·
     have g11:=hgm.out w3 hb3w
     go_simp
     refine hK.out _ _ hHeld (fun hHeld=>?_)
     clear hK K g11
     try go_frame
     refine oneH 13 fun K hK=>?_
     go_simp
     refine hK.out _ _ (hcall.out _ _ hHeld (Aa (Below.refl w3.heap.size w3) _)) (fun hHeld=>?_)
     clear hK K
     try go_frame
     refine oneH 14 fun K hK=>?_
     refine EU II 1 (fun _=>rfl) (fun b u hu=>by simp at hu;subst hu;rfl) (by omega) 122 i0 _ 8 Tryz.underlying122 hi0 hz0 hz1 hz2 rfl (by omega) rfl (.tmp 21) (.tmp 30) rfl w2.heap.size A q ((List.range k).map gs) g1 k (by simp) rfl (hown.out _ hb3w) w3.heap.size rfl rfl rfl (by simp;omega) (by have:=hb3w.size;omega) ?_
     intro A1 q1 w4 hO4 hP4
     obtain ⟨⟨c11,d11⟩,s4,s5,gs',Xs',hM',b5⟩:=FINM.out w3 w4 g1 X1 A1 q1 hb3w (by rw [hcf.out,hsl2.out];exact hT) (fun y hy=>by have:=hX1 y hy;have:=hd.size;omega) hO4 hP4
     refine hK.out _ _ s4 (fun hHeld=>?_)
     clear hK K
     try go_frame
     refine tq 15 ?_;try go_frame
     refine tq 16 ?_;try go_frame
     refine oneH 17 fun K hK=>?_
     go_simp
     refine hK.out _ _ s5 (fun hHeld=>?_)
     clear hK K hHeld c11 d11
     try go_frame
     refine wpAnyH_done (by kernel_rfl) ?_ _
     go_wp2_with fail
     go_roundg (gk - 1)
     case measure=>omega
     case rel=>exact ⟨k+1,A1,q1,gs',Xs',by omega,by go_num,hM',b5⟩
    ·
     go_simp
     refine hK.out _ _ (hcall.out _ _ hHeld (Aa (Below.refl w3.heap.size w3) _)) (fun hHeld=>?_)
     clear hK K
     try go_frame
     refine oneH 4 fun K hK=>?_
     have g11:=hgm.out _ (A8 (Aa (Below.refl w3.heap.size w3) (.cells #[.pointer (some ⟨g1,0,none⟩)] 125)) hb3w)
     go_simp
     refine hK.out _ _ hHeld (fun hHeld=>?_)
     clear hK K g11
     try go_frame
     refine oneH 14 fun K hK=>?_
     refine EU II 1 (fun _=>rfl) (fun b u hu=>by simp at hu;subst hu;rfl) (by omega) 122 i0 _ 8 Tryz.underlying122 hi0 hz0 hz1 hz2 rfl (by omega) rfl (.tmp 21) (.tmp 30) rfl w2.heap.size A q ((List.range k).map gs) g1 k (by simp) rfl (hown.out _ hb3w) w3.heap.size rfl rfl rfl (by simp;omega) (by have:=hb3w.size;omega) ?_
     intro A1 q1 w4 hO4 hP4
     obtain ⟨⟨c11,d11⟩,s4,s5,gs',Xs',hM',b5⟩:=FINM.out w3 w4 g1 X1 A1 q1 hb3w (by rw [hcf.out,hsl2.out];exact hT) (fun y hy=>by have:=hX1 y hy;have:=hd.size;omega) hO4 hP4
     refine hK.out _ _ s4 (fun hHeld=>?_)
     clear hK K
     try go_frame
     refine tq 15 ?_;try go_frame
     refine tq 16 ?_;try go_frame
     refine oneH 17 fun K hK=>?_
     go_simp
     refine hK.out _ _ s5 (fun hHeld=>?_)
     clear hK K hHeld c11 d11
     try go_frame
     refine wpAnyH_done (by kernel_rfl) ?_ _
     go_wp2_with fail
     go_roundg (gk - 1)
     case measure=>omega
     case rel=>exact ⟨k+1,A1,q1,gs',Xs',by omega,by go_num,hM',b5⟩
  ·
   obtain rfl:k=p:=by omega
   have hlti:¬ (k:Int)<(k:Int):=by omega
   obtain ⟨X,hP,hX⟩:=hM.done hp1 hp16 hnp.out
   clear hM
   go_wp2_with fail
   go_ret
   exact ⟨g,rfl,X,hP,by rw [← hrb];exact A8 hbr hb0,fun y hy=>by have:=hb02.size;rcases hX y hy with h | h <;> omega⟩
end Go.Proofs.YteklkljndchjiaaGreat
