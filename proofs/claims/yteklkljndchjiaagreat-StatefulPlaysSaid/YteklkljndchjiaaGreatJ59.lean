/- stateful: the law StatefulPlays, called, but for a step and what is told behind it (UNDER WAY: not built). stateful: the law StatefulPlays, called: what New and Right tell. stateful: the law StatefulPlays, called: a round, but for its step and what is told behind it. stateful: the law StatefulPlays, called: its end. stateful: both keepers and a law's cookies through a step. stateful: .. -/
import Derived.Test.YteklkljndchjiaaGreatJ56
import Derived.Test.YteklkljndchjiaaGreatJ53
import Derived.Test.YteklkljndchjiaaGreatJ47
import Derived.Test.YteklkljndchjiaaGreatJ54
import Derived.Deep.CutRange
import Derived.Deep.CutBlock
import Derived.Deep.LoopGhost
import Derived.Test.YteklkljndchjiaaGreatJ9
import Derived.Test.YteklkljndchjiaaGreatJ34
import Derived.Test.YteklkljndchjiaaGreatJ4
import Derived.Test.YteklkljndchjiaaGreatJ55
namespace Go.Proofs.YteklkljndchjiaaGreat
open Go Go.RowKit Go.Deep Go.Maps Go.ChangeMaps
structure LS (w1 wx:World) (k:KPtr) (r:KRule) (j:Nat) (A:Option Addr) (c:Nat) (cs:List Int) (s:KSt) (X:Nat→Prop):Prop where
 ki:KI r s
 ob:Aj k r s wx X
 ge:∀ y,X y→w1.heap.size≤y
 own:OwnU wx w1.heap.size A c cs
 off:∀ y,X y→¬ InB A y
 bl:Below w1.heap.size w1 wx
 rg:∀ x ∈ cs,0≤x∧x<18446744073709551616
 cl:cs.length≤j
section
variable {w1 wx w':World} {k:KPtr} {r:KRule} {j c c':Nat} {A A':Option Addr} {cs:List Int} {s s':KSt} {X:Nat→Prop}
def frS (f:Nat→Int):Nat→Int
 | 0=>0
 | j+1=>frS f j+f j
theorem J3 (r:KRule) (s:KSt) (b:Bool) {i:Nat} (hi:i<r.p):freeI r.p (s.S b) (i:Int)=((s.S b i).L.length:Int):=by
 unfold freeI
 rw [if_pos (by omega),Int.toNat_natCast]
theorem RY (hI:KI r s) (b:Bool):∀ q,q≤r.p→frS (fun i=>freeI r.p (s.S b) (i:Int)) q+((entsL (r.n b) q (s.S b)).length:Int)=(q * r.n b:Nat):=by
 intro q hq
 have h1:=GY (fun i hi=>(hI.lk b).ti i hi) q hq
 have key:∀ q,q≤r.p→frS (fun i=>freeI r.p (s.S b) (i:Int)) q=(((List.range q).map fun i=>(s.S b i).L.length).sum:Nat):=fun q=>by
  induction q with
  | zero=>intro _;rfl
  | succ q ih =>
   intro hq
   rw [frS,ih (by omega),J3 r s b (by omega),List.range_succ,List.map_append,List.sum_append]
   simp
 rw [key q hq]
 omega
theorem Pf (f g:Nat→Int):∀ q,frS (fun i=>f i+g i) q=frS f q+frS g q
 | 0=>rfl
 | q+1=>by
  rw [frS,frS,frS,Pf f g q]
  omega
def fr2 (r:KRule) (s:KSt) (q:Nat):Int:=frS (fun i=>freeI r.p (s.S true) (i:Int)+freeI r.p (s.S false) (i:Int)) q
theorem SK (hI:KI r s):fr2 r s r.p+((r.live s).length:Int)=(r.p * (r.n true+r.n false):Nat):=by
 have h1:=RY hI true r.p (Nat.le_refl _)
 have h2:=RY hI false r.p (Nat.le_refl _)
 unfold fr2 KRule.live KRule.liveB
 rw [Pf,List.length_append,Nat.mul_add]
 omega
theorem SL (hI:KI r s):∀ q,q≤r.p→0≤fr2 r s q∧fr2 r s q≤q * 8192:=fun q=>by
 induction q with
 | zero=>intro _;exact ⟨Int.le_refl _,Int.le_refl _⟩
 | succ q ih =>
  intro hq
  have h1:=ih (by omega)
  have h2:=Cm ((hI.lk true).ti q (by omega))
  have h3:=Cm ((hI.lk false).ti q (by omega))
  have h4:=hI.n4 true
  have h5:=hI.n4 false
  unfold fr2 at h1 ⊢
  rw [frS,J3 r s true (by omega),J3 r s false (by omega)]
  omega
end
structure LT (w1 wx:World) (k:KPtr) (dk:DKPtr) (r:KRule) (s1 s2:KSt) (X Y K:Nat→Prop):Prop where
 k1:KI r s1
 k2:KI r s2
 o1:Aj k r s1 wx X
 o2:Ag dk r s2 wx Y
 g1:∀ y,X y→w1.heap.size≤y
 g2:∀ y,Y y→w1.heap.size≤y
 xy:∀ y,X y→¬ Y y
 kk:∀ y,K y→¬ X y∧¬ Y y∧y<wx.heap.size
 bl:Below w1.heap.size w1 wx
section
variable {w1 wx w':World} {k:KPtr} {dk:DKPtr} {r:KRule} {s1 s2 s':KSt} {X Y K K' Z:Nat→Prop} {A A':Option Addr}
theorem LT.codeZ (h:LT w1 wx k dk r s1 s2 X Y K) (hI:KI r s') (t:(Aj k r s').ToZ wx w' X Z) (hZ:∀ y,Z y→wx.heap.size≤y∧y<w'.heap.size):∃ X',LT w1 w' k dk r s' s2 X' Y (fun y=>K y∨Z y)∧Chg X wx w':=by
 obtain ⟨X',m1,m2,m3,m4⟩:=t
 have hz:=m2.size
 have hY:=fun y (hy:Y y)=>dkeepOb_ok.lt h.o2 hy
 refine ⟨X',⟨hI,h.k2,m1,dkeepOb_ok.chg h.o2 m2 fun y hy hx=>h.xy y hx hy,fun y hy=>?_,h.g2,fun y hy hy2=>?_,fun y hy=>?_,Ar h.bl m2 (fun y hy hx=>by have:=h.g1 y hx;omega) h.bl.size⟩,m2⟩
 ·
  rcases m3 y hy with q | q
  · exact h.g1 y q
  ·
   have:=h.bl.size
   omega
 ·
  rcases m3 y hy with q | q
  · exact h.xy y q hy2
  ·
   have:=hY y hy2
   omega
 ·
  rcases hy with q | q
  ·
   obtain ⟨a,b,c⟩:=h.kk y q
   refine ⟨fun e=>?_,b,by omega⟩
   rcases m3 y e with f | f
   · exact a f
   · omega
  ·
   obtain ⟨a,b⟩:=hZ y q
   exact ⟨fun e=>m4 y e q,fun e=>by have:=hY y e;omega,b⟩
theorem LT.docZ (h:LT w1 wx k dk r s1 s2 X Y K) (hI:KI r s') (t:(Ag dk r s').ToZ wx w' Y Z) (hZ:∀ y,Z y→wx.heap.size≤y∧y<w'.heap.size):∃ Y',LT w1 w' k dk r s1 s' X Y' (fun y=>K y∨Z y)∧Chg Y wx w':=by
 obtain ⟨Y',m1,m2,m3,m4⟩:=t
 have hz:=m2.size
 have hX:=fun y (hy:X y)=>keepOb_ok.lt h.o1 hy
 refine ⟨Y',⟨h.k1,hI,keepOb_ok.chg h.o1 m2 fun y hy hx=>h.xy y hy hx,m1,h.g1,fun y hy=>?_,fun y hy hy2=>?_,fun y hy=>?_,Ar h.bl m2 (fun y hy hx=>by have:=h.g2 y hx;omega) h.bl.size⟩,m2⟩
 ·
  rcases m3 y hy with q | q
  · exact h.g2 y q
  ·
   have:=h.bl.size
   omega
 ·
  rcases m3 y hy2 with q | q
  · exact h.xy y hy q
  ·
   have:=hX y hy
   omega
 ·
  rcases hy with q | q
  ·
   obtain ⟨a,b,c⟩:=h.kk y q
   refine ⟨a,fun e=>?_,by omega⟩
   rcases m3 y e with f | f
   · exact b f
   · omega
  ·
   obtain ⟨a,b⟩:=hZ y q
   exact ⟨fun e=>by have:=hX y e;omega,fun e=>m4 y e q,b⟩
theorem LT.less (h:LT w1 wx k dk r s1 s2 X Y K) (hK:∀ y,K' y→K y):LT w1 wx k dk r s1 s2 X Y K':=⟨h.k1,h.k2,h.o1,h.o2,h.g1,h.g2,h.xy,fun y hy=>h.kk y (hK y hy),h.bl⟩
theorem LT.code (h:LT w1 wx k dk r s1 s2 X Y K) (hI:KI r s') (t:(Aj k r s').To wx w' X):∃ X',LT w1 w' k dk r s' s2 X' Y K∧Chg X wx w':=by
 obtain ⟨X0,m1,m2,m3⟩:=t
 obtain ⟨X',a,b⟩:=h.codeZ (Z:=fun _=>False) hI ⟨X0,m1,m2,m3,fun _ _ e=>e⟩ fun _ e=>e.elim
 exact ⟨X',a.less fun y hy=>.inl hy,b⟩
theorem LT.doc (h:LT w1 wx k dk r s1 s2 X Y K) (hI:KI r s') (t:(Ag dk r s').To wx w' Y):∃ Y',LT w1 w' k dk r s1 s' X Y' K∧Chg Y wx w':=by
 obtain ⟨X0,m1,m2,m3⟩:=t
 obtain ⟨X',a,b⟩:=h.docZ (Z:=fun _=>False) hI ⟨X0,m1,m2,m3,fun _ _ e=>e⟩ fun _ e=>e.elim
 exact ⟨X',a.less fun y hy=>.inl hy,b⟩
theorem LT.made (h:LT w1 wx k dk r s1 s2 X Y K) (hb:Below wx.heap.size wx w') (hZ:∀ y,Z y→wx.heap.size≤y∧y<w'.heap.size):LT w1 w' k dk r s1 s2 X Y (fun y=>K y∨Z y):=by
 have hz:=hb.size
 refine ⟨h.k1,h.k2,keepOb_ok.call h.o1 hb,dkeepOb_ok.call h.o2 hb,h.g1,h.g2,h.xy,fun y hy=>?_,Ah hb h.bl h.bl.size⟩
 rcases hy with q | q
 ·
  obtain ⟨a,b,c⟩:=h.kk y q
  exact ⟨a,b,by omega⟩
 ·
  obtain ⟨a,b⟩:=hZ y q
  exact ⟨fun e=>by have:=keepOb_ok.lt h.o1 e;omega,fun e=>by have:=dkeepOb_ok.lt h.o2 e;omega,b⟩
theorem LT.call (h:LT w1 wx k dk r s1 s2 X Y K) (hb:Below wx.heap.size wx w'):LT w1 w' k dk r s1 s2 X Y K:=(h.made (Z:=fun _=>False) hb fun _ e=>e.elim).less fun _ hy=>.inl hy
theorem LT.push (h:LT w1 wx k dk r s1 s2 X Y K) (hP:Pushed wx w' A A') (hA:∀ y,InB A y→K y∧w1.heap.size≤y) (hA':∀ y,InB A' y→y<w'.heap.size):LT w1 w' k dk r s1 s2 X Y (fun y=>K y∨InB A' y):=by
 have hz:=hP.chg.size
 refine ⟨h.k1,h.k2,keepOb_ok.chg h.o1 hP.chg fun y hy e=>(h.kk y (hA y e).1).1 hy,dkeepOb_ok.chg h.o2 hP.chg fun y hy e=>(h.kk y (hA y e).1).2.1 hy,h.g1,h.g2,h.xy,fun y hy=>?_,Ar h.bl hP.chg (fun y hy hx=>by have:=(hA y hx).2;omega) h.bl.size⟩
 have one:∀ y,K y→¬ X y∧¬ Y y∧y<w'.heap.size:=fun y q=>by
  obtain ⟨a,b,c⟩:=h.kk y q
  exact ⟨a,b,by omega⟩
 rcases hy with q | q
 · exact one y q
 ·
  rcases hP.new y q with f | f
  · exact one y (hA y f).1
  · exact ⟨fun e=>by have:=keepOb_ok.lt h.o1 e;omega,fun e=>by have:=dkeepOb_ok.lt h.o2 e;omega,hA' y q⟩
structure LP (w1 wx:World) (k:KPtr) (dk:DKPtr) (r:KRule) (j:Nat) (A:Option Addr) (c:Nat) (cs:List Int) (s:KSt) (X Y:Nat→Prop):Prop where
 lt:LT w1 wx k dk r s s X Y (InB A)
 own:OwnU wx w1.heap.size A c cs
 rg:∀ x ∈ cs,0≤x∧x<18446744073709551616
 cl:cs.length≤j
theorem LP.call {j c:Nat} {cs:List Int} {s:KSt} (h:LP w1 wx k dk r j A c cs s X Y) (hb:Below wx.heap.size wx w'):LP w1 w' k dk r j A c cs s X Y:=⟨h.lt.call hb,h.own.call hb,h.rg,h.cl⟩
theorem LP.mono {j c:Nat} {cs:List Int} {s:KSt} (h:LP w1 wx k dk r j A c cs s X Y):LP w1 wx k dk r (j+1) A c cs s X Y:=⟨h.lt,h.own,h.rg,by have:=h.cl;omega⟩
end
end Go.Proofs.YteklkljndchjiaaGreat
namespace Go.Proofs.YteklkljndchjiaaGreat
open Go Go.RowKit Go.Deep Go.Maps Go.ChangeMaps
end Go.Proofs.YteklkljndchjiaaGreat
namespace Go.Proofs.YteklkljndchjiaaGreat
open Go Go.RowKit Go.Deep Go.Maps Go.ChangeMaps
set_option maxRecDepth 100000 in
set_option maxHeartbeats 64000000 in
def J4:(P1:Prop) ×' (P2:Prop) ×' (Hid P1→Hid P2→∀ (r:KRule) (l:List T20) (B:Option Addr) (d:Nat) (w:World) (_hr:Reads w w.heap.size 14 B l.length (l.flatMap T20.cells)) (_hwf:∀ s ∈ l,t20Wf s) (_hy:Bg r=true) (_hz:EO r=true) (_h30:l.length≤30),
  Calls Tryz.prog 4 #[r.val,.slice B l.length d] w fun e w'=>e=.returned (.bool true)∧Below w.heap.size w w'):=by
 apply PSigma.mk
 apply PSigma.mk
 ·
  intro Q1 Q2 r l B d w hr hwf hy hz h30
  have RR:=Lib.hid fun W=>CW r W
  have SM:=Lib.hid fun W=>Ho r W
  have OF:=Lib.hid fun W=>ME r W
  have NW:=Lib.hid fun W=>MD r hy W
  have ND:=Lib.hid fun W=>QD r hy W
  have RT:=Lib.hid fun W=>Ez r W
  rw [hy] at RR RT
  rw [hz] at SM
  have hI0:=KI.new hy
  have R0:=Blk.new w 70 r.cells.toArray
  have hb0:Below w.heap.size w (w.alloc (.cells r.cells.toArray 70)):=Aa (Below.refl _ _) _
  have e31:decide (30<l.length)=false:=decide_eq_false (by omega)
  have e32:¬ (30:Int)<(l.length:Int):=by omega
  have e30:decide ((30:Int)<(l.length:Int))=false:=decide_eq_false e32
  replace hr:=Lib.hid hr
  replace hwf:=Lib.hid hwf
  replace hy:=Lib.hid hy
  replace hz:=Lib.hid hz
  replace hI0:=Lib.hid hI0
  go_enter Tryz.func4,Tryz.ntmps4
  go_upto_region 1 with fail
  change Code.wp _ _ _ _ (w.alloc (.cells r.cells.toArray 70))
  generalize w.alloc (.cells r.cells.toArray 70)=w0 at *
  obtain ⟨rb,hrb⟩:∃ r,w.heap.size=r:=⟨_,rfl⟩
  rw [hrb] at R0 hb0
  try rw [hrb]
  have RC:=Lib.hid fun W (hb:Below w0.heap.size w0 W)=>KrAt.of (R0.call hb)
  obtain ⟨c0,c1,c2,c3,c4,c5,c6,c7,c8,c9,c10,c11,c12,c13⟩:=RC.out _ (Below.refl _ _)
  have hzr:=R0.lt
  go_upto_region 5 with (first
   | (go_at_call 34;(with_reducible refine (RR.out _).mono ?_);rintro e w1 ⟨rfl,hb1⟩;clear c0 c1 c2 c3 c4 c5 c6 c7 c8 c9 c10 c11 c12 c13;obtain ⟨c0,c1,c2,c3,c4,c5,c6,c7,c8,c9,c10,c11,c12,c13⟩:=RC.out _ hb1)
   | (go_at_call 35;(with_reducible refine (SM.out _).mono ?_);rintro e w3 ⟨rfl,hb3⟩;clear c0 c1 c2 c3 c4 c5 c6 c7 c8 c9 c10 c11 c12 c13;obtain ⟨c0,c1,c2,c3,c4,c5,c6,c7,c8,c9,c10,c11,c12,c13⟩:=RC.out _ (A8 hb3 hb1))
   | (go_at_call 38;(with_reducible refine (OF.out _).mono ?_);rintro e w4 ⟨rfl,hb4⟩)
   | (go_at_call 37;(with_reducible refine (NW.out _).mono ?_);rintro e w5 ⟨k,X0,rfl,hK0,hb5,hX0⟩;clear c0 c1 c2 c3 c4 c5 c6 c7 c8 c9 c10 c11 c12 c13;obtain ⟨c0,c1,c2,c3,c4,c5,c6,c7,c8,c9,c10,c11,c12,c13⟩:=RC.out _ (A8 hb5 (A8 hb4 (A8 hb3 hb1))))
   | (go_at_call 39;(with_reducible refine (ND.out _).mono ?_);rintro e w6 ⟨dk,Y0,rfl,hD0,hb6,hY0⟩;clear c0 c1 c2 c3 c4 c5 c6 c7 c8 c9 c10 c11 c12 c13;obtain ⟨c0,c1,c2,c3,c4,c5,c6,c7,c8,c9,c10,c11,c12,c13⟩:=RC.out _ (A8 hb6 (A8 hb5 (A8 hb4 (A8 hb3 hb1))))))
  have hb14:=A8 hb4 (A8 hb3 hb1)
  have R4:=R0.call hb14
  have hbw:=Ah hb14 hb0 (by omega)
  have hz4:rb<w4.heap.size:=R4.lt
  have hK6:=fun y (hy:X0 y)=>keepOb_ok.lt hK0 hy
  have hz5:=hb5.size
  have hLP0:LP w4 w6 k dk r 0 none 0 [] (kNew r) X0 Y0:=⟨⟨hI0.out,hI0.out,keepOb_ok.call hK0 hb6,hD0,hX0,fun y hy=>by have:=hY0 y hy;omega,fun y hx hy=>by have:=hK6 y hx;have:=hY0 y hy;omega,fun y e=>(by obtain ⟨a,e,-⟩:=e;cases e),Ah hb6 hb5 hz5⟩,OwnA.nil _ _,fun x hx=>(by cases hx),Nat.le_refl _⟩
  have RW:=Lib.hid fun W (hb:Below w4.heap.size w4 W)=>show Blk W rb 70 r.cells.toArray from R4.below hb hz4
  have HR:=Lib.hid fun W (hb:Below w4.heap.size w4 W)=>show Reads W w.heap.size 14 B l.length (l.flatMap T20.cells) from hr.out.below (by rw [hrb];exact Ah hb hbw (by omega))
  clear SM NW ND RC R0 hb0 hb1 hb3 hb4 hb5 hb6 hb14 R4 hK0 hX0 hI0 hD0 hY0 hK6 hz5
  replace hLP0:=Lib.hid hLP0
  go_cut [70] from 51 to 70 (fun x70 wx=>x70=.bool false∧Below w6.heap.size w6 wx)
  case first =>
   rename_i zz0 zz1 zz2 zz3 zz4 zz5 zz6 zz7 zz8
   revert r l B d w h30 RR OF RT e31 e30 hr hwf hy hz zz0 w0 rb hrb hzr w1 e32 w3 w4 w5 k X0 w6 dk Y0 c0 c1 c2 c3 c4 c5 c6 c7 c8 c9 c10 c11 c12 c13 zz1 zz2 zz3 zz4 hbw hz4 RW HR hLP0 zz5 zz6 zz7 zz8
   exact Q1.out
  case rest =>
   obtain ⟨rfl,hbc⟩:=hcut
   have hLP1:=hLP0.out.call hbc
   clear hLP0 hbc c0 c1 c2 c3 c4 c5 c6 c7 c8 c9 c10 c11 c12 c13 RR OF RT
   replace hLP1:=Lib.hid hLP1
   go_wp2_with fail
   go_loopg [8,9] l.length (fun gk cv iv wr=>∃ (j:Nat) (A:Option Addr) (q:Nat) (cs:List Int) (s:KSt) (X Y:Nat→Prop),j+gk=l.length∧iv=.int .i64 (j:Nat)∧cv=.slice A cs.length q∧LP w4 wr k dk r j A q cs s X Y)
   case atStart=>exact ⟨0,none,0,[],_,_,_,by omega,rfl,rfl,hLP1.out⟩
   case round =>
    rename_i zz0 zz1 zz2 zz3 zz4 zz5 zz6
    revert r l B d w h30 e31 e30 hr hwf hy hz zz0 w0 rb hrb hzr w1 e32 w3 w4 w5 k X0 w6 dk Y0 hbw hz4 RW HR wc u51 u52 u53 u54 u55 u56 u57 u58 u59 u60 u61 u62 u63 u64 u65 u66 u67 u68 u69 hLP1 zz1 zz2 gk wr u4 u8 u9 u10 u11 u12 u13 u14 u15 u16 u17 u18 u19 u20 u21 u22 u23 u24 u25 u26 u27 u28 u29 u71 u72 u73 u74 u75 u76 u77 u78 u79 u80 u81 u82 u83 u84 u85 u86 u87 u88 u89 u90 u91 u92 u93 u94 u95 u96 u97 u98 u99 u100 u101 u102 u103 u104 u105 u106 u107 u108 u109 u110 u111 u112 u113 u114 u115 u116 u117 u118 u119 u120 u121 u122 u123 u124 u125 u126 u127 u128 u129 u130 u131 u132 u133 u134 u135 u136 u137 u138 u139 u140 u141 u142 u143 u144 u145 u146 u147 u148 u149 u150 u151 u152 u153 u154 u155 u156 u157 u158 u159 u160 u161 u162 u163 u164 u165 u166 u167 u168 u169 u170 u171 u172 u173 u174 u175 u176 u177 u178 u179 u180 u181 u182 u183 u184 u185 u186 u187 u188 u189 u190 u191 u192 u193 u194 u195 u196 u197 u198 u199 u200 u201 u202 u203 u204 u205 u206 u207 u208 u209 u210 u211 u212 u213 u214 u215 u216 u217 u218 u219 u220 u221 u222 u223 u224 u225 u226 u227 u228 u229 u230 u231 u232 u233 u234 u235 u236 u237 u238 u239 u240 u241 u242 u243 u244 u245 u246 u247 u248 u249 u250 u251 u252 u253 u254 u255 u256 u257 u258 u259 u260 u261 u262 u263 u264 u265 u266 u267 u268 u269 u270 u271 u272 hrel zz3 zz4 zz5 zz6
    exact Q2.out
set_option maxRecDepth 100000 in
set_option maxHeartbeats 64000000 in
theorem EB:J4.1:=by
 intro r l B d w h30 RR OF RT e31 e30 hr hwf hy hz zz0 w0 rb hrb hzr w1 e32 w3 w4 w5 k X0 w6 dk Y0 c0 c1 c2 c3 c4 c5 c6 c7 c8 c9 c10 c11 c12 c13 zz1 zz2 zz3 zz4 hbw hz4 RW HR hLP0 zz5 zz6 zz7 zz8
 have hbd:=Below.drew (Below.refl w6.heap.size w6)
 go_region_held3 (fun W=>Below w6.heap.size w6 W∧W.cell? ⟨rb,0,none⟩=some (.bool r.nw)∧W.cell? ⟨rb,1,none⟩=some (.int .i64 r.ns)∧W.cell? ⟨rb,2,none⟩=some (.int .i64 r.ng)∧W.cell? ⟨rb,3,none⟩=some (.bool r.ww)∧W.cell? ⟨rb,4,none⟩=some (.int .i64 r.ws)∧W.cell? ⟨rb,5,none⟩=some (.int .i64 r.wg)∧W.cell? ⟨rb,6,none⟩=some (.int .u64 r.ka)∧W.cell? ⟨rb,7,none⟩=some (.int .u64 r.kb)∧W.cell? ⟨rb,8,none⟩=some (.int .i64 r.np)∧W.cell? ⟨rb,9,none⟩=some (.int .i64 r.a)∧W.cell? ⟨rb,10,none⟩=some (.int .i64 r.b)∧W.cell? ⟨rb,11,none⟩=some (.int .i64 r.c)∧W.cell? ⟨rb,12,none⟩=some (.int .i64 r.d)∧W.cell? ⟨rb,13,none⟩=some (.int .i64 r.G)) (first | ((first | assumption | ((refine ⟨?_,?_⟩;(first | assumption | exact (Below.refl _ _).drew | exact Below.refl _ _);go_keep))))) (first
  | (go_at_call 38;(with_reducible refine (OF.out _).mono ?_);rintro e w7 ⟨rfl,hb7⟩;have hS7:=DY (by assumption) hb7)
  | (go_at_call 40;(with_reducible refine (RT.out _).mono ?_);rintro e w8 ⟨rfl,hb8⟩;have hS8:=DY (by assumption) hb8)
  | (go_at_call 34;(with_reducible refine (RR.out _).mono ?_);rintro e w9 ⟨rfl,hb9⟩;have hS9:=DY (by assumption) hb9))
 all_goals
  go_wp2_with fail
  go_meet
  exact ⟨rfl,And.left (by assumption)⟩
set_option maxRecDepth 100000 in
set_option maxHeartbeats 64000000 in
def Gz:(P1:Prop) ×' (P2:Prop) ×' (P3:Prop) ×' (Hid P1→Hid P2→Hid P3→J4.2.1):=by
 apply PSigma.mk
 apply PSigma.mk
 apply PSigma.mk
 ·
  intro Q1 Q2 Q3
  intro r l B d w h30 e31 e30 hr hwf hy hz zz0 w0 rb hrb hzr w1 e32 w3 w4 w5 k X0 w6 dk Y0 hbw hz4 RW HR wc u51 u52 u53 u54 u55 u56 u57 u58 u59 u60 u61 u62 u63 u64 u65 u66 u67 u68 u69 hLP1 zz1 zz2 gk wr u4 u8 u9 u10 u11 u12 u13 u14 u15 u16 u17 u18 u19 u20 u21 u22 u23 u24 u25 u26 u27 u28 u29 u71 u72 u73 u74 u75 u76 u77 u78 u79 u80 u81 u82 u83 u84 u85 u86 u87 u88 u89 u90 u91 u92 u93 u94 u95 u96 u97 u98 u99 u100 u101 u102 u103 u104 u105 u106 u107 u108 u109 u110 u111 u112 u113 u114 u115 u116 u117 u118 u119 u120 u121 u122 u123 u124 u125 u126 u127 u128 u129 u130 u131 u132 u133 u134 u135 u136 u137 u138 u139 u140 u141 u142 u143 u144 u145 u146 u147 u148 u149 u150 u151 u152 u153 u154 u155 u156 u157 u158 u159 u160 u161 u162 u163 u164 u165 u166 u167 u168 u169 u170 u171 u172 u173 u174 u175 u176 u177 u178 u179 u180 u181 u182 u183 u184 u185 u186 u187 u188 u189 u190 u191 u192 u193 u194 u195 u196 u197 u198 u199 u200 u201 u202 u203 u204 u205 u206 u207 u208 u209 u210 u211 u212 u213 u214 u215 u216 u217 u218 u219 u220 u221 u222 u223 u224 u225 u226 u227 u228 u229 u230 u231 u232 u233 u234 u235 u236 u237 u238 u239 u240 u241 u242 u243 u244 u245 u246 u247 u248 u249 u250 u251 u252 u253 u254 u255 u256 u257 u258 u259 u260 u261 u262 u263 u264 u265 u266 u267 u268 u269 u270 u271 u272 hrel zz3 zz4 zz5 zz6
  obtain ⟨j,A,q,cs,s,X,Y,hj,rfl,rfl,hL⟩:=hrel
  clear hLP1
  by_cases hlt:j<l.length
  ·
   have hlti:(j:Int)<(l.length:Int):=by omega
   obtain ⟨ad,st,rfl,hbl,hst,c0,c1,c2,c3,c4,c5,c6,c7,c8,c9,c10,c11,c12,c13⟩:=RD (HR.out _ hL.lt.bl) hlt
   have hwfs:=hwf.out st (List.mem_of_getElem? hst)
   have hcl:=hL.cl
   replace hL:=Lib.hid hL
   replace hwfs:=Lib.hid hwfs
   go_upto_region 12 with fail
   change Code.wp _ _ _ _ (wr.alloc (.cells st.cells.toArray 49))
   have Sb:=Blk.new wr 49 st.cells.toArray
   have hL6:=hL.out.call (Aa (Below.refl _ _) (.cells st.cells.toArray 49))
   obtain ⟨rs,hrs⟩:∃ r,wr.heap.size=r:=⟨_,rfl⟩
   have hrlt:∀ y,X y→y≠rs:=fun y hy e=>by have:=keepOb_ok.lt hL.out.lt.o1 hy;omega
   have hrltY:∀ y,Y y→y≠rs:=fun y hy e=>by have:=dkeepOb_ok.lt hL.out.lt.o2 hy;omega
   have hrA:¬ InB A rs:=fun e=>by have:=(hL.out.own.block e).2;omega
   have hrs4:w4.heap.size≤rs:=by have:=hL.out.lt.bl.size;omega
   rw [hrs] at Sb
   try rw [hrs]
   generalize wr.alloc (.cells st.cells.toArray 49)=w6 at *
   clear c0 c1 c2 c3 c4 c5 c6 c7 c8 c9 c10 c11 c12 c13 hL hst hbl
   have hRd:=hL6.own.reads
   rw [RB] at hRd
   obtain ⟨ck,hck,CH⟩:=KY st hwfs.out A q cs hL6.rg (by omega) w6 hRd
   replace CH:=Lib.hid CH
   replace hL6:=Lib.hid hL6
   clear hRd
   go_upto_region 13 with (first
    | (with_reducible refine Ai rfl 49 (.tmp 10) rfl rs 0 rfl Sb st.cells rfl _ Tryz.underlying49 rfl (by kernel_rfl) ?_)
    | (go_at_call 41;(with_reducible refine CH.out.mono ?_);rintro e w7 ⟨rfl,hb7⟩))
   have hL7:=hL6.out.call hb7
   have Sb7:=Sb.call hb7
   have s0:w7.cell? ⟨rs,0,none⟩=some (.int .i64 st.kd):=Sb7.cell 0
   replace hL7:=Lib.hid hL7
   clear CH hL6 Sb hb7
   go_upto_block 2 with fail
   go_cut [8,12,13,14,15,16,17,18,19,20,21,22,23,24,25,26,27,28,29] from 90 to 244 (fun x8 _ _ _ _ _ _ _ _ _ _ _ _ _ _ _ _ _ _ wx=>∃ (A:Option Addr) (q:Nat) (cs:List Int) (s:KSt) (X Y:Nat→Prop),x8=.slice A cs.length q∧LP w4 wx k dk r (j+1) A q cs s X Y)
   case first =>
    rename_i yy0 yy1 yy2 yy3 yy4 yy5 yy6 yy7 yy8
    revert r l d w h30 e31 e30 hwf hy hz zz0 w0 rb hrb hzr w1 e32 w3 w4 w5 k X0 yy0 dk Y0 hbw hz4 RW wc u51 u52 u53 u54 u55 u56 u57 u58 u59 u60 u61 u62 u63 u64 u65 u66 u67 u68 u69 zz1 zz2 gk wr u4 u10 u11 u12 u13 u14 u15 u16 u17 u18 u19 u20 u21 u22 u23 u24 u25 u26 u27 u28 u29 u71 u72 u73 u74 u75 u76 u77 u78 u79 u80 u81 u82 u83 u84 u85 u86 u87 u88 u89 u90 u91 u92 u93 u94 u95 u96 u97 u98 u99 u100 u101 u102 u103 u104 u105 u106 u107 u108 u109 u110 u111 u112 u113 u114 u115 u116 u117 u118 u119 u120 u121 u122 u123 u124 u125 u126 u127 u128 u129 u130 u131 u132 u133 u134 u135 u136 u137 u138 u139 u140 u141 u142 u143 u144 u145 u146 u147 u148 u149 u150 u151 u152 u153 u154 u155 u156 u157 u158 u159 u160 u161 u162 u163 u164 u165 u166 u167 u168 u169 u170 u171 u172 u173 u174 u175 u176 u177 u178 u179 u180 u181 u182 u183 u184 u185 u186 u187 u188 u189 u190 u191 u192 u193 u194 u195 u196 u197 u198 u199 u200 u201 u202 u203 u204 u205 u206 u207 u208 u209 u210 u211 u212 u213 u214 u215 u216 u217 u218 u219 u220 u221 u222 u223 u224 u225 u226 u227 u228 u229 u230 u231 u232 u233 u234 u235 u236 u237 u238 u239 u240 u241 u242 u243 u244 u245 u246 u247 u248 u249 u250 u251 u252 u253 u254 u255 u256 u257 u258 u259 u260 u261 u262 u263 u264 u265 u266 u267 u268 u269 u270 u271 u272 zz3 zz4 zz6 j A q cs s X Y hj hlt hlti ad st hr HR zz5 hcl hwfs yy1 yy2 rs hrs hrlt hrltY hrA hrs4 w6 ck hck w7 yy3 yy4 Sb7 s0 hL7 yy5 yy6 yy7 yy8
    exact Q1.out
   case rest =>
    rename_i yy0 yy1 yy2 yy3 yy4 yy5 yy6 yy7 yy8 yy9 yy10 yy11 yy12 yy13 yy14 yy15 yy16 yy17 yy18 yy19 yy20 yy21 yy22 yy23 yy24 yy25 yy26 yy27 yy28 yy29 yy30 yy31 yy32 yy33 yy34 yy35 yy36 yy37 yy38 yy39 yy40 yy41 yy42 yy43 yy44 yy45 yy46 yy47 yy48 yy49 yy50 yy51 yy52 yy53 yy54 yy55 yy56 yy57 yy58 yy59 yy60 yy61 yy62 yy63 yy64 yy65 yy66 yy67 yy68 yy69 yy70 yy71 yy72 yy73 yy74 yy75 yy76 yy77 yy78 yy79 yy80 yy81 yy82 yy83 yy84 yy85 yy86 yy87 yy88 yy89 yy90 yy91 yy92 yy93 yy94 yy95 yy96 yy97 yy98 yy99 yy100 yy101 yy102 yy103 yy104 yy105 yy106 yy107 yy108 yy109 yy110 yy111 yy112 yy113 yy114 yy115 yy116 yy117 yy118 yy119 yy120 yy121 yy122 yy123 yy124 yy125 yy126 yy127 yy128 yy129 yy130 yy131 yy132 yy133 yy134 yy135 yy136 yy137 yy138 yy139 yy140 yy141 yy142 yy143 yy144 yy145 yy146 yy147 yy148 yy149 yy150 yy151 yy152 yy153 yy154 yy155 yy156 yy157 yy158 yy159 yy160 yy161 yy162 yy163 yy164 yy165 yy166 yy167 yy168 yy169 yy170 yy171 yy172 yy173 yy174 yy175 yy176 yy177 yy178 yy179
    revert r l d w h30 e31 e30 hwf hy hz zz0 w0 rb hrb hzr w1 e32 w3 w4 w5 k X0 yy0 dk Y0 hbw hz4 RW yy1 u51 u52 u53 u54 u55 u56 u57 u58 u59 u60 u61 u62 u63 u64 u65 u66 u67 u68 u69 zz1 zz2 gk wr yy2 u10 u11 yy3 yy4 yy5 yy6 yy7 yy8 yy9 yy10 yy11 yy12 yy13 yy14 yy15 yy16 yy17 yy18 yy19 yy20 u71 u72 u73 u74 u75 u76 u77 u78 u79 u80 u81 u82 u83 u84 u85 u86 u87 u88 u89 yy21 yy22 yy23 yy24 yy25 yy26 yy27 yy28 yy29 yy30 yy31 yy32 yy33 yy34 yy35 yy36 yy37 yy38 yy39 yy40 yy41 yy42 yy43 yy44 yy45 yy46 yy47 yy48 yy49 yy50 yy51 yy52 yy53 yy54 yy55 yy56 yy57 yy58 yy59 yy60 yy61 yy62 yy63 yy64 yy65 yy66 yy67 yy68 yy69 yy70 yy71 yy72 yy73 yy74 yy75 yy76 yy77 yy78 yy79 yy80 yy81 yy82 yy83 yy84 yy85 yy86 yy87 yy88 yy89 yy90 yy91 yy92 yy93 yy94 yy95 yy96 yy97 yy98 yy99 yy100 yy101 yy102 yy103 yy104 yy105 yy106 yy107 yy108 yy109 yy110 yy111 yy112 yy113 yy114 yy115 yy116 yy117 yy118 yy119 yy120 yy121 yy122 yy123 yy124 yy125 yy126 yy127 yy128 yy129 yy130 yy131 yy132 yy133 yy134 yy135 yy136 yy137 yy138 yy139 yy140 yy141 yy142 yy143 yy144 yy145 yy146 yy147 yy148 yy149 yy150 yy151 yy152 yy153 yy154 yy155 yy156 yy157 yy158 yy159 yy160 yy161 yy162 yy163 yy164 yy165 yy166 yy167 yy168 yy169 yy170 yy171 yy172 yy173 yy174 yy175 u245 u246 u247 u248 u249 u250 u251 u252 u253 u254 u255 u256 u257 u258 u259 u260 u261 u262 u263 u264 u265 u266 u267 u268 u269 u270 u271 u272 zz3 zz4 zz6 j A q cs s X Y hj hlt hlti ad st hr HR zz5 hcl hwfs yy176 yy177 rs hrs hrlt hrltY hrA hrs4 w6 ck hck w7 yy178 yy179 Sb7 s0 hL7 wc u4 u8 u12 u13 u14 u15 u16 u17 u18 u19 u20 u21 u22 u23 u24 u25 u26 u27 u28 u29 u90 u91 u92 u93 u94 u95 u96 u97 u98 u99 u100 u101 u102 u103 u104 u105 u106 u107 u108 u109 u110 u111 u112 u113 u114 u115 u116 u117 u118 u119 u120 u121 u122 u123 u124 u125 u126 u127 u128 u129 u130 u131 u132 u133 u134 u135 u136 u137 u138 u139 u140 u141 u142 u143 u144 u145 u146 u147 u148 u149 u150 u151 u152 u153 u154 u155 u156 u157 u158 u159 u160 u161 u162 u163 u164 u165 u166 u167 u168 u169 u170 u171 u172 u173 u174 u175 u176 u177 u178 u179 u180 u181 u182 u183 u184 u185 u186 u187 u188 u189 u190 u191 u192 u193 u194 u195 u196 u197 u198 u199 u200 u201 u202 u203 u204 u205 u206 u207 u208 u209 u210 u211 u212 u213 u214 u215 u216 u217 u218 u219 u220 u221 u222 u223 u224 u225 u226 u227 u228 u229 u230 u231 u232 u233 u234 u235 u236 u237 u238 u239 u240 u241 u242 u243 u244 hcut
    exact Q2.out
  ·
   obtain rfl:j=l.length:=by omega
   have hlti:¬ (l.length:Int)<(l.length:Int):=by omega
   replace hL:=Lib.hid hL
   revert r l B d w h30 e31 e30 hr hwf hy hz zz0 w0 rb hrb hzr w1 e32 w3 w4 w5 k X0 w6 dk Y0 hbw hz4 RW HR wc u51 u52 u53 u54 u55 u56 u57 u58 u59 u60 u61 u62 u63 u64 u65 u66 u67 u68 u69 zz1 zz2 gk wr u4 u10 u11 u12 u13 u14 u15 u16 u17 u18 u19 u20 u21 u22 u23 u24 u25 u26 u27 u28 u29 u71 u72 u73 u74 u75 u76 u77 u78 u79 u80 u81 u82 u83 u84 u85 u86 u87 u88 u89 u90 u91 u92 u93 u94 u95 u96 u97 u98 u99 u100 u101 u102 u103 u104 u105 u106 u107 u108 u109 u110 u111 u112 u113 u114 u115 u116 u117 u118 u119 u120 u121 u122 u123 u124 u125 u126 u127 u128 u129 u130 u131 u132 u133 u134 u135 u136 u137 u138 u139 u140 u141 u142 u143 u144 u145 u146 u147 u148 u149 u150 u151 u152 u153 u154 u155 u156 u157 u158 u159 u160 u161 u162 u163 u164 u165 u166 u167 u168 u169 u170 u171 u172 u173 u174 u175 u176 u177 u178 u179 u180 u181 u182 u183 u184 u185 u186 u187 u188 u189 u190 u191 u192 u193 u194 u195 u196 u197 u198 u199 u200 u201 u202 u203 u204 u205 u206 u207 u208 u209 u210 u211 u212 u213 u214 u215 u216 u217 u218 u219 u220 u221 u222 u223 u224 u225 u226 u227 u228 u229 u230 u231 u232 u233 u234 u235 u236 u237 u238 u239 u240 u241 u242 u243 u244 u245 u246 u247 u248 u249 u250 u251 u252 u253 u254 u255 u256 u257 u258 u259 u260 u261 u262 u263 u264 u265 u266 u267 u268 u269 u270 u271 u272 zz3 zz4 zz5 zz6 A q cs s X Y hj hlt hlti hL
   exact Q3.out
set_option maxRecDepth 100000 in
set_option maxHeartbeats 64000000 in
theorem DF:Gz.2.2.1:=by
 intro r _ _ _ _ _ _ _ _ _ _ _ _ _ _ hrb _ w1 _ _ _ _ k _ _ dk _ hbw _ _ _ _ _ _ _ _ _ _ _ _ _ _ _ _ _ _ _ _ _ _ _ _ _ _ _ _ _ _ _ _ _ _ _ _ _ _ _ _ _ _ _ _ _ _ _ _ _ _ _ _ _ _ _ _ _ _ _ _ _ _ _ _ _ _ _ _ _ _ _ _ _ _ _ _ _ _ _ _ _ _ _ _ _ _ _ _ _ _ _ _ _ _ _ _ _ _ _ _ _ _ _ _ _ _ _ _ _ _ _ _ _ _ _ _ _ _ _ _ _ _ _ _ _ _ _ _ _ _ _ _ _ _ _ _ _ _ _ _ _ _ _ _ _ _ _ _ _ _ _ _ _ _ _ _ _ _ _ _ _ _ _ _ _ _ _ _ _ _ _ _ _ _ _ _ _ _ _ _ _ _ _ _ _ _ _ _ _ _ _ _ _ _ _ _ _ _ _ _ _ _ _ _ _ _ _ _ _ _ _ _ _ _ _ _ _ _ _ _ _ _ _ _ _ _ _ _ _ _ _ _ _ _ _ _ _ _ _ _ _ _ _ _ _ _ _ _ _ _ _ _ _ _ A _ cs s X Y _ _ _ hL
 have hbl:=hL.out.lt.bl
 have hbz:=Ah hbl hbw (by omega)
 go_wp2_with (go_at_call 36;(with_reducible refine (Fc _).mono ?_);rintro e w9 ⟨rfl,hb9⟩)
 go_ret
 exact ⟨rfl,by rw [hrb];exact Ah hb9 hbz (by have:=hbz.size;omega)⟩
section
variable {w1 wx w':World} {k:KPtr} {dk:DKPtr} {r:KRule} {s1 s2 s' s:KSt} {X Y K K' Z:Nat→Prop} {A A':Option Addr} {j c:Nat} {cs:List Int}
theorem LT.with (h:LT w1 wx k dk r s1 s2 X Y K) {q:Nat} (hX:¬ X q) (hY:¬ Y q) (hq:q<wx.heap.size):LT w1 wx k dk r s1 s2 X Y (fun y=>K y∨y=q) :=
 ⟨h.k1,h.k2,h.o1,h.o2,h.g1,h.g2,h.xy,fun y hy=>hy.elim (h.kk y) fun e=>by subst e;exact ⟨hX,hY,hq⟩,h.bl⟩
theorem LP.fin (h:LT w1 wx k dk r s s X Y K) (hK:∀ y,InB A y→K y) (hO:OwnU wx w1.heap.size A c cs) (hr:∀ x ∈ cs,0≤x∧x<18446744073709551616) (hj:cs.length≤j):LP w1 wx k dk r (j+1) A c cs s X Y :=
 ⟨h.less hK,hO,hr,by omega⟩
theorem LT.found {W2 W3 W4:World} {rc:Nat} {z ov:Slt} (h:LT w1 wx k dk r s1 s2 X Y K) (hI:KI r s') (hb:Below wx.heap.size wx W2) (T:(Ag dk r s').To W2 W3 Y) (hb4:Below W3.heap.size W3 W4)
  (hr:wx.heap.size≤rc) (hr2:rc<W2.heap.size∨W3.heap.size≤rc) (BQ:Blk W4 rc 52 z.entA) :
  ∃ Y1 F,LT w1 (Ac W4 rc ov) k dk r s1 s' X Y1 K∧Blk (Ac W4 rc ov) rc 52 ov.entA∧Chg F wx (Ac W4 rc ov)∧∀ y,K y→¬ F y:=by
 obtain ⟨e1,e2⟩:=Ab BQ ov
 have h2:=h.call hb
 have hXr:¬ X rc:=fun e=>by have:=keepOb_ok.lt h.o1 e;omega
 have hYr:¬ Y rc:=fun e=>by have:=dkeepOb_ok.lt h.o2 e;omega
 have h3:∃ Y1,LT w1 W3 k dk r s1 s' X Y1 K∧Chg Y W2 W3∧¬ Y1 rc:=by
  rcases hr2 with q | q
  ·
   obtain ⟨Y1,m1,m2⟩:=(h2.with hXr hYr q).doc hI T
   exact ⟨Y1,m1.less fun y hy=>.inl hy,m2,(m1.kk rc (.inr rfl)).2.1⟩
  ·
   obtain ⟨Y1,m1,m2⟩:=h2.doc hI T
   exact ⟨Y1,m1,m2,fun e=>by have:=dkeepOb_ok.lt m1.o2 e;omega⟩
 obtain ⟨Y1,h3,d3,hY1⟩:=h3
 have h4:=h3.call hb4
 have hz:=h.bl.size
 refine ⟨Y1,fun y=>Y y∨wx.heap.size≤y,⟨h4.k1,h4.k2,keepOb_ok.chg h4.o1 e2 fun y hy e=>hXr ((show y=rc from e) ▸ hy),dkeepOb_ok.chg h4.o2 e2 fun y hy e=>hY1 ((show y=rc from e) ▸ hy),h4.g1,h4.g2,h4.xy,fun y hy=>?_,Ar h4.bl e2 (fun y hy e=>by have e3:y=rc:=e;omega) h4.bl.size⟩,e1,?_,fun y hy e=>?_⟩
 ·
  obtain ⟨a,b,c⟩:=h4.kk y hy
  exact ⟨a,b,by have:=e2.size;omega⟩
 ·
  refine (((Chg.of_below hb).trans d3 fun y _ hy=>.inl hy).trans (G:=fun _=>False) (Chg.of_below hb4) fun _ _ e=>e.elim).trans e2 fun y hy e=>?_
  have e3:y=rc:=e
  omega
 ·
  obtain ⟨a,b,c⟩:=h.kk y hy
  rcases e with e | e
  · exact b e
  · omega
end
set_option maxRecDepth 100000 in
set_option maxHeartbeats 64000000 in
def Ei:(P1:Prop) ×' (P2:Prop) ×' (P3:Prop) ×' (P4:Prop) ×' (P5:Prop) ×' (Hid P1→Hid P2→Hid P3→Hid P4→Hid P5→Gz.1):=by
 apply PSigma.mk
 apply PSigma.mk
 apply PSigma.mk
 apply PSigma.mk
 apply PSigma.mk
 ·
  intro Q1 Q2 Q3 Q4 Q5
  intro r l d w h30 e31 e30 hwf hy hz zz0 w0 rb hrb hzr w1 e32 w3 w4 w5 k X0 yy0 dk Y0 hbw hz4 RW wc u51 u52 u53 u54 u55 u56 u57 u58 u59 u60 u61 u62 u63 u64 u65 u66 u67 u68 u69 zz1 zz2 gk wr u4 u10 u11 u12 u13 u14 u15 u16 u17 u18 u19 u20 u21 u22 u23 u24 u25 u26 u27 u28 u29 u71 u72 u73 u74 u75 u76 u77 u78 u79 u80 u81 u82 u83 u84 u85 u86 u87 u88 u89 u90 u91 u92 u93 u94 u95 u96 u97 u98 u99 u100 u101 u102 u103 u104 u105 u106 u107 u108 u109 u110 u111 u112 u113 u114 u115 u116 u117 u118 u119 u120 u121 u122 u123 u124 u125 u126 u127 u128 u129 u130 u131 u132 u133 u134 u135 u136 u137 u138 u139 u140 u141 u142 u143 u144 u145 u146 u147 u148 u149 u150 u151 u152 u153 u154 u155 u156 u157 u158 u159 u160 u161 u162 u163 u164 u165 u166 u167 u168 u169 u170 u171 u172 u173 u174 u175 u176 u177 u178 u179 u180 u181 u182 u183 u184 u185 u186 u187 u188 u189 u190 u191 u192 u193 u194 u195 u196 u197 u198 u199 u200 u201 u202 u203 u204 u205 u206 u207 u208 u209 u210 u211 u212 u213 u214 u215 u216 u217 u218 u219 u220 u221 u222 u223 u224 u225 u226 u227 u228 u229 u230 u231 u232 u233 u234 u235 u236 u237 u238 u239 u240 u241 u242 u243 u244 u245 u246 u247 u248 u249 u250 u251 u252 u253 u254 u255 u256 u257 u258 u259 u260 u261 u262 u263 u264 u265 u266 u267 u268 u269 u270 u271 u272 zz3 zz4 zz6 j A q cs s X Y hj hlt hlti ad st hr HR zz5 hcl hwfs yy1 yy2 rs hrs hrlt hrltY hrA hrs4 w6 ck hck w7 yy3 yy4 Sb7 s0 hL7 yy5 yy6 yy7 yy8
  have hrs7:=Sb7.lt
  have hT7:=Lib.hid (hL7.out.lt.with (q:=rs) (fun h=>hrlt _ h rfl) (fun h=>hrltY _ h rfl) hrs7)
  have hO7:=Lib.hid hL7.out.own
  have hrg:=Lib.hid hL7.out.rg
  have hcl7:=hL7.out.cl
  have hbz7:=hL7.out.lt.bl.size
  have FIN:=Lib.hid fun (wx:World) (A:Option Addr) (c:Nat) (cs:List Int) (s:KSt) (X Y K:Nat→Prop) (h:LT w4 wx k dk r s s X Y K) (hK:∀ y,InB A y→K y) (hO:OwnU wx w4.heap.size A c cs) (hr:∀ x ∈ cs,0≤x∧x<18446744073709551616) (hj:cs.length≤j)=>LP.fin h hK hO hr hj
  by_cases k0:st.kd=0
  ·
   have c0:(st.kd==0)=true:=by simpa using k0
   clear k0
   revert r l d w h30 e31 e30 hwf hy hz zz0 w0 rb hrb hzr w1 e32 w3 w4 w5 k X0 yy0 dk Y0 hbw hz4 RW wc u51 u52 u53 u54 u55 u56 u57 u58 u59 u60 u61 u62 u63 u64 u65 u66 u67 u68 u69 zz1 zz2 gk wr u4 u10 u11 u12 u13 u14 u15 u16 u17 u18 u19 u20 u21 u22 u23 u24 u25 u26 u27 u28 u29 u71 u72 u73 u74 u75 u76 u77 u78 u79 u80 u81 u82 u83 u84 u85 u86 u87 u88 u89 u90 u91 u92 u93 u94 u95 u96 u97 u98 u99 u100 u101 u102 u103 u104 u105 u106 u107 u108 u109 u110 u111 u112 u113 u114 u115 u116 u117 u118 u119 u120 u121 u122 u123 u124 u125 u126 u127 u128 u129 u130 u131 u132 u133 u134 u135 u136 u137 u138 u139 u140 u141 u142 u143 u144 u145 u146 u147 u148 u149 u150 u151 u152 u153 u154 u155 u156 u157 u158 u159 u160 u161 u162 u163 u164 u165 u166 u167 u168 u169 u170 u171 u172 u173 u174 u175 u176 u177 u178 u179 u180 u181 u182 u183 u184 u185 u186 u187 u188 u189 u190 u191 u192 u193 u194 u195 u196 u197 u198 u199 u200 u201 u202 u203 u204 u205 u206 u207 u208 u209 u210 u211 u212 u213 u214 u215 u216 u217 u218 u219 u220 u221 u222 u223 u224 u225 u226 u227 u228 u229 u230 u231 u232 u233 u234 u235 u236 u237 u238 u239 u240 u241 u242 u243 u244 u245 u246 u247 u248 u249 u250 u251 u252 u253 u254 u255 u256 u257 u258 u259 u260 u261 u262 u263 u264 u265 u266 u267 u268 u269 u270 u271 u272 zz3 zz4 zz6 j A q cs s X Y hj hlt hlti ad st hr HR zz5 hcl hwfs yy1 yy2 rs hrs hrlt hrltY hrA hrs4 w6 ck hck w7 yy3 yy4 Sb7 s0 hL7 yy5 yy6 yy7 yy8 hrs7 hT7 hO7 hrg hcl7 hbz7 FIN c0
   exact Q1.out
  have c0:(st.kd==0)=false:=by simpa using k0
  by_cases k1:st.kd=1
  ·
   have c1:(st.kd==1)=true:=by simpa using k1
   clear k1
   revert r l d w h30 e31 e30 hwf hy hz zz0 w0 rb hrb hzr w1 e32 w3 w4 w5 k X0 yy0 dk Y0 hbw hz4 RW wc u51 u52 u53 u54 u55 u56 u57 u58 u59 u60 u61 u62 u63 u64 u65 u66 u67 u68 u69 zz1 zz2 gk wr u4 u10 u11 u12 u13 u14 u15 u16 u17 u18 u19 u20 u21 u22 u23 u24 u25 u26 u27 u28 u29 u71 u72 u73 u74 u75 u76 u77 u78 u79 u80 u81 u82 u83 u84 u85 u86 u87 u88 u89 u90 u91 u92 u93 u94 u95 u96 u97 u98 u99 u100 u101 u102 u103 u104 u105 u106 u107 u108 u109 u110 u111 u112 u113 u114 u115 u116 u117 u118 u119 u120 u121 u122 u123 u124 u125 u126 u127 u128 u129 u130 u131 u132 u133 u134 u135 u136 u137 u138 u139 u140 u141 u142 u143 u144 u145 u146 u147 u148 u149 u150 u151 u152 u153 u154 u155 u156 u157 u158 u159 u160 u161 u162 u163 u164 u165 u166 u167 u168 u169 u170 u171 u172 u173 u174 u175 u176 u177 u178 u179 u180 u181 u182 u183 u184 u185 u186 u187 u188 u189 u190 u191 u192 u193 u194 u195 u196 u197 u198 u199 u200 u201 u202 u203 u204 u205 u206 u207 u208 u209 u210 u211 u212 u213 u214 u215 u216 u217 u218 u219 u220 u221 u222 u223 u224 u225 u226 u227 u228 u229 u230 u231 u232 u233 u234 u235 u236 u237 u238 u239 u240 u241 u242 u243 u244 u245 u246 u247 u248 u249 u250 u251 u252 u253 u254 u255 u256 u257 u258 u259 u260 u261 u262 u263 u264 u265 u266 u267 u268 u269 u270 u271 u272 zz3 zz4 zz6 j A q cs s X Y hj hlt hlti ad st hr HR zz5 hcl hwfs yy1 yy2 rs hrs hrlt hrltY hrA hrs4 w6 ck hck w7 yy3 yy4 Sb7 s0 hL7 yy5 yy6 yy7 yy8 hrs7 hT7 hO7 hrg hcl7 hbz7 FIN k0 c0 c1
   exact Q2.out
  have c1:(st.kd==1)=false:=by simpa using k1
  by_cases k2:st.kd=2
  ·
   have c2:(st.kd==2)=true:=by simpa using k2
   clear k2
   revert r l d w h30 e31 e30 hwf hy hz zz0 w0 rb hrb hzr w1 e32 w3 w4 w5 k X0 yy0 dk Y0 hbw hz4 RW wc u51 u52 u53 u54 u55 u56 u57 u58 u59 u60 u61 u62 u63 u64 u65 u66 u67 u68 u69 zz1 zz2 gk wr u4 u10 u11 u12 u13 u14 u15 u16 u17 u18 u19 u20 u21 u22 u23 u24 u25 u26 u27 u28 u29 u71 u72 u73 u74 u75 u76 u77 u78 u79 u80 u81 u82 u83 u84 u85 u86 u87 u88 u89 u90 u91 u92 u93 u94 u95 u96 u97 u98 u99 u100 u101 u102 u103 u104 u105 u106 u107 u108 u109 u110 u111 u112 u113 u114 u115 u116 u117 u118 u119 u120 u121 u122 u123 u124 u125 u126 u127 u128 u129 u130 u131 u132 u133 u134 u135 u136 u137 u138 u139 u140 u141 u142 u143 u144 u145 u146 u147 u148 u149 u150 u151 u152 u153 u154 u155 u156 u157 u158 u159 u160 u161 u162 u163 u164 u165 u166 u167 u168 u169 u170 u171 u172 u173 u174 u175 u176 u177 u178 u179 u180 u181 u182 u183 u184 u185 u186 u187 u188 u189 u190 u191 u192 u193 u194 u195 u196 u197 u198 u199 u200 u201 u202 u203 u204 u205 u206 u207 u208 u209 u210 u211 u212 u213 u214 u215 u216 u217 u218 u219 u220 u221 u222 u223 u224 u225 u226 u227 u228 u229 u230 u231 u232 u233 u234 u235 u236 u237 u238 u239 u240 u241 u242 u243 u244 u245 u246 u247 u248 u249 u250 u251 u252 u253 u254 u255 u256 u257 u258 u259 u260 u261 u262 u263 u264 u265 u266 u267 u268 u269 u270 u271 u272 zz3 zz4 zz6 j A q cs s X Y hj hlt hlti ad st hr HR zz5 hcl hwfs yy1 yy2 rs hrs hrlt hrltY hrA hrs4 w6 ck hck w7 yy3 yy4 Sb7 s0 hL7 yy5 yy6 yy7 yy8 hrs7 hT7 hO7 hrg hcl7 hbz7 FIN k0 c0 k1 c1 c2
   exact Q3.out
  have c2:(st.kd==2)=false:=by simpa using k2
  by_cases k3:st.kd=3
  ·
   have c3:(st.kd==3)=true:=by simpa using k3
   clear k3
   revert r l d w h30 e31 e30 hwf hy hz zz0 w0 rb hrb hzr w1 e32 w3 w4 w5 k X0 yy0 dk Y0 hbw hz4 RW wc u51 u52 u53 u54 u55 u56 u57 u58 u59 u60 u61 u62 u63 u64 u65 u66 u67 u68 u69 zz1 zz2 gk wr u4 u10 u11 u12 u13 u14 u15 u16 u17 u18 u19 u20 u21 u22 u23 u24 u25 u26 u27 u28 u29 u71 u72 u73 u74 u75 u76 u77 u78 u79 u80 u81 u82 u83 u84 u85 u86 u87 u88 u89 u90 u91 u92 u93 u94 u95 u96 u97 u98 u99 u100 u101 u102 u103 u104 u105 u106 u107 u108 u109 u110 u111 u112 u113 u114 u115 u116 u117 u118 u119 u120 u121 u122 u123 u124 u125 u126 u127 u128 u129 u130 u131 u132 u133 u134 u135 u136 u137 u138 u139 u140 u141 u142 u143 u144 u145 u146 u147 u148 u149 u150 u151 u152 u153 u154 u155 u156 u157 u158 u159 u160 u161 u162 u163 u164 u165 u166 u167 u168 u169 u170 u171 u172 u173 u174 u175 u176 u177 u178 u179 u180 u181 u182 u183 u184 u185 u186 u187 u188 u189 u190 u191 u192 u193 u194 u195 u196 u197 u198 u199 u200 u201 u202 u203 u204 u205 u206 u207 u208 u209 u210 u211 u212 u213 u214 u215 u216 u217 u218 u219 u220 u221 u222 u223 u224 u225 u226 u227 u228 u229 u230 u231 u232 u233 u234 u235 u236 u237 u238 u239 u240 u241 u242 u243 u244 u245 u246 u247 u248 u249 u250 u251 u252 u253 u254 u255 u256 u257 u258 u259 u260 u261 u262 u263 u264 u265 u266 u267 u268 u269 u270 u271 u272 zz3 zz4 zz6 j A q cs s X Y hj hlt hlti ad st hr HR zz5 hcl hwfs yy1 yy2 rs hrs hrlt hrltY hrA hrs4 w6 ck hck w7 yy3 yy4 Sb7 s0 hL7 yy5 yy6 yy7 yy8 hrs7 hT7 hO7 hrg hcl7 hbz7 FIN k0 c0 k1 c1 k2 c2 c3
   exact Q4.out
  have c3:(st.kd==3)=false:=by simpa using k3
  by_cases k4:st.kd=4
  ·
   have c4:(st.kd==4)=true:=by simpa using k4
   clear k4
   revert r l d w h30 e31 e30 hwf hy hz zz0 w0 rb hrb hzr w1 e32 w3 w4 w5 k X0 yy0 dk Y0 hbw hz4 RW wc u51 u52 u53 u54 u55 u56 u57 u58 u59 u60 u61 u62 u63 u64 u65 u66 u67 u68 u69 zz1 zz2 gk wr u4 u10 u11 u12 u13 u14 u15 u16 u17 u18 u19 u20 u21 u22 u23 u24 u25 u26 u27 u28 u29 u71 u72 u73 u74 u75 u76 u77 u78 u79 u80 u81 u82 u83 u84 u85 u86 u87 u88 u89 u90 u91 u92 u93 u94 u95 u96 u97 u98 u99 u100 u101 u102 u103 u104 u105 u106 u107 u108 u109 u110 u111 u112 u113 u114 u115 u116 u117 u118 u119 u120 u121 u122 u123 u124 u125 u126 u127 u128 u129 u130 u131 u132 u133 u134 u135 u136 u137 u138 u139 u140 u141 u142 u143 u144 u145 u146 u147 u148 u149 u150 u151 u152 u153 u154 u155 u156 u157 u158 u159 u160 u161 u162 u163 u164 u165 u166 u167 u168 u169 u170 u171 u172 u173 u174 u175 u176 u177 u178 u179 u180 u181 u182 u183 u184 u185 u186 u187 u188 u189 u190 u191 u192 u193 u194 u195 u196 u197 u198 u199 u200 u201 u202 u203 u204 u205 u206 u207 u208 u209 u210 u211 u212 u213 u214 u215 u216 u217 u218 u219 u220 u221 u222 u223 u224 u225 u226 u227 u228 u229 u230 u231 u232 u233 u234 u235 u236 u237 u238 u239 u240 u241 u242 u243 u244 u245 u246 u247 u248 u249 u250 u251 u252 u253 u254 u255 u256 u257 u258 u259 u260 u261 u262 u263 u264 u265 u266 u267 u268 u269 u270 u271 u272 zz3 zz4 zz6 j A q cs s X Y hj hlt hlti ad st hr HR zz5 hcl hwfs yy1 yy2 rs hrs hrlt hrltY hrA hrs4 w6 ck hck w7 yy3 yy4 Sb7 s0 hL7 yy5 yy6 yy7 yy8 hrs7 hT7 hO7 hrg hcl7 hbz7 FIN k0 c0 k1 c1 k2 c2 k3 c3 c4
   exact Q5.out
  have c4:(st.kd==4)=false:=by simpa using k4
  have hX:=Lib.hid hL7.out.mono
  go_wp2_with fail
  go_meet
  exact ⟨A,q,cs,_,_,_,rfl,hX.out⟩
set_option maxRecDepth 100000 in
set_option maxHeartbeats 64000000 in
theorem D9:Ei.2.2.2.2.1:=by
 intro r _ _ w _ _ _ _ hy _ _ _ _ _ _ _ _ _ _ _ _ _ _ _ _ _ _ _ _ _ _ _ _ _ _ _ _ _ _ _ _ _ _ _ _ _ _ _ _ _ _ _ _ _ _ _ _ _ _ _ _ _ _ _ _ _ _ _ _ _ _ _ _ _ _ _ _ _ _ _ _ _ _ _ _ _ _ _ _ _ _ _ _ _ _ _ _ _ _ _ _ _ _ _ _ _ _ _ _ _ _ _ _ _ _ _ _ _ _ _ _ _ _ _ _ _ _ _ _ _ _ _ _ _ _ _ _ _ _ _ _ _ _ _ _ _ _ _ _ _ _ _ _ _ _ _ _ _ _ _ _ _ _ _ _ _ _ _ _ _ _ _ _ _ _ _ _ _ _ _ _ _ _ _ _ _ _ _ _ _ _ _ _ _ _ _ _ _ _ _ _ _ _ _ _ _ _ _ _ _ _ _ _ _ _ _ _ _ _ _ _ _ _ _ _ _ _ _ _ _ _ _ _ _ _ _ _ _ _ _ _ _ _ _ _ _ _ _ _ _ _ _ _ _ _ _ _ _ _ _ _ _ _ _ _ _ _ _ _ _ _ _ _ _ _ _ _ _ _ A q cs s _ _ _ _ _ _ st _ _ _ _ _ _ _ rs _ hrlt _ _ _ _ _ _ w7 _ _ Sb7 s0 _ _ _ _ _ _ hT7 hO7 hrg hcl7 _ FIN _ _ k1 _ k2 _ _ _ _
 have hd:Below w7.heap.size w7 w7.drew:=(Below.refl _ _).drew
 have Lq:=hT7.out.call hd
 have SbQ:=Lib.hid (Sb7.call hd)
 have sq:w7.drew.cell? ⟨rs,11,none⟩=some (.int .i64 st.bk):=SbQ.out.cell 11
 have Oq:=Lib.hid (OwnA.call hO7.out hd)
 have D1:=QB Lq.k1 Lq.o1 st.bk
 have hI1:=Lq.k1.drop st.bk
 have hln1:=Dp Lq.k1 st.bk true
 have hln2:=Dp Lq.k1 st.bk false
 have hln:(Bi r s st.bk).length≤131072:=by
  unfold Bi
  rw [List.length_append]
  omega
 obtain ⟨LG,hLG⟩:∃ v,Bi r s st.bk=v:=⟨_,rfl⟩
 rw [hLG] at D1 hln
 replace hLG:=Lib.hid hLG
 obtain ⟨sx,hsx⟩:∃ v,kDrop r s st.bk=v:=⟨_,rfl⟩
 rw [hsx] at D1 hI1
 replace hsx:=Lib.hid hsx
 replace D1:=Lib.hid D1
 replace hI1:=Lib.hid hI1
 replace Lq:=Lib.hid Lq
 clear hd hln1 hln2
 go_upto_region 37 with fail
 clear s0
 refine wp_region_held_drew (S:=fun W=>W.cell? ⟨rs,11,none⟩=some (.int .i64 st.bk)) (by kernel_rfl) sq (fun hHeld=>?_)
 generalize w7.drew=wq at *
 refine tq 0 ?_;try go_frame
 refine tq 1 ?_;try go_frame
 refine tq 2 ?_;try go_frame
 refine tq 4 ?_;try go_frame
 refine tq 5 ?_;try go_frame
 refine tq 6 ?_;try go_frame
 refine oneH 3 fun K hK=>?_
 go_simp
 (go_at_call 52;(with_reducible refine D1.out.mono ?_))
 rintro e v1 ⟨A1,q1,rfl,hO1,T1⟩
 obtain ⟨X1,L1,d1⟩:=Lq.out.codeZ hI1.out T1 (fun y hy=>hO1.block hy)
 have P1:=SbQ.out.chg d1 (fun h=>hrlt _ h rfl)
 have O1:=Lib.hid (OwnA.chg Oq.out d1 (fun b hb e=>(Lq.out.kk b (.inl hb)).1 e))
 have s11':v1.cell? ⟨rs,11,none⟩=some (.int .i64 st.bk):=P1.cell 11
 refine hK.out _ _ s11' (fun hHeld=>?_)
 clear hK K
 try go_frame
 have D2:=Oh L1.k2 L1.o2 st.bk
 rw [hLG.out,hsx.out] at D2
 replace D2:=Lib.hid D2
 refine oneH 7 fun K hK=>?_
 go_simp
 (go_at_call 53;(with_reducible refine D2.out.mono ?_))
 rintro e v2 ⟨A2,q2,rfl,hO2,T2⟩
 obtain ⟨Y2,L2,d2⟩:=L1.docZ hI1.out T2 (fun y hy=>hO2.block hy)
 have P2:=P1.chg d2 (fun h=>(L1.kk rs (.inl (.inr rfl))).2.1 h)
 have O2:=Lib.hid (OwnA.chg O1.out d2 (fun b hb e=>(L1.kk b (.inl (.inl hb))).2.1 e))
 have s11'':v2.cell? ⟨rs,11,none⟩=some (.int .i64 st.bk):=P2.cell 11
 refine hK.out _ _ s11'' (fun hHeld=>?_)
 clear hK K
 try go_frame
 have SA:=KG v2 A1 A2 q1 q2 LG (OwnA.chg hO1 d2 (fun b hb e=>(L1.kk b (.inr hb)).2.1 e)).reads hO2.reads (by omega)
 refine oneH 8 fun K hK=>?_
 go_simp
 (go_at_call 23;(with_reducible refine SA.mono ?_))
 rintro e v3 ⟨rfl,hb4⟩
 refine hK.out _ _ ((hb4.cell (A0 s11'')).trans s11'') (fun hHeld=>?_)
 clear hK K
 try go_frame
 refine tq 9 ?_;try go_frame
 refine wpAnyH_done (by kernel_rfl) ?_ _
 replace L2:=Lib.hid L2
 clear hHeld L1 T1 T2 d1 d2 P1 P2
 go_wp2_with fail
 go_meet
 exact ⟨A,q,cs,_,_,_,rfl,FIN.out _ _ _ _ _ _ _ _ (L2.out.call hb4) (fun y h=>.inl (.inl (.inl h))) (O2.out.call hb4) hrg.out hcl7⟩
set_option maxRecDepth 100000 in
set_option maxHeartbeats 64000000 in
theorem Da:Ei.2.2.2.1:=by
 intro r _ _ w _ _ _ _ hy _ _ _ _ _ _ _ _ _ _ _ _ _ _ _ _ _ _ _ _ _ _ _ _ _ _ _ _ _ _ _ _ _ _ _ _ _ _ _ _ _ _ _ _ _ _ _ _ _ _ _ _ _ _ _ _ _ _ _ _ _ _ _ _ _ _ _ _ _ _ _ _ _ _ _ _ _ _ _ _ _ _ _ _ _ _ _ _ _ _ _ _ _ _ _ _ _ _ _ _ _ _ _ _ _ _ _ _ _ _ _ _ _ _ _ _ _ _ _ _ _ _ _ _ _ _ _ _ _ _ _ _ _ _ _ _ _ _ _ _ _ _ _ _ _ _ _ _ _ _ _ _ _ _ _ _ _ _ _ _ _ _ _ _ _ _ _ _ _ _ _ _ _ _ _ _ _ _ _ _ _ _ _ _ _ _ _ _ _ _ _ _ _ _ _ _ _ _ _ _ _ _ _ _ _ _ _ _ _ _ _ _ _ _ _ _ _ _ _ _ _ _ _ _ _ _ _ _ _ _ _ _ _ _ _ _ _ _ _ _ _ _ _ _ _ _ _ _ _ _ _ _ _ _ _ _ _ _ _ _ _ _ _ _ _ _ _ _ _ _ A q cs s _ _ _ _ _ _ st _ _ _ _ _ _ _ rs _ hrlt _ _ _ _ _ _ w7 _ _ Sb7 s0 _ _ _ _ _ _ hT7 hO7 hrg hcl7 _ FIN _ _ k1 _ k2 _ _
 have s10:w7.cell? ⟨rs,10,none⟩=some (.int .i64 st.n):=Sb7.cell 10
 have nilR:∀ W:World,Reads W W.heap.size 14 none 0 ([].flatMap Slt.ent):=fun W=>(OwnA.nil (cells:=Slt.ent) (m:=14) (e:=52) (w:=W) (base:=W.heap.size)).reads
 cases hg:goOk s.now st.n
 ·
  have K1:=Lib.hid (Od hT7.out.k1 hT7.out.o1 st.n hg)
  go_upto_region 33 with (go_at_call 50;(with_reducible refine K1.out.mono ?_);rintro e v1 ⟨rfl,T1⟩)
  obtain ⟨X1,L1,d1⟩:=hT7.out.code hT7.out.k1 T1
  have P1:=Sb7.chg d1 (fun h=>hrlt _ h rfl)
  have O1:=Lib.hid (OwnA.chg hO7.out d1 (fun b hb e=>(hT7.out.kk b (.inl hb)).1 e))
  have K2:=Lib.hid (MJ L1.k2 L1.o2 st.n hg)
  clear s0 s10 K1 d1 T1
  have s10:v1.cell? ⟨rs,10,none⟩=some (.int .i64 st.n):=P1.cell 10
  replace L1:=Lib.hid L1
  go_upto_region 34 with (go_at_call 51;(with_reducible refine K2.out.mono ?_);rintro e v2 ⟨rfl,T2⟩)
  obtain ⟨Y2,L2,d2⟩:=L1.out.doc L1.out.k2 T2
  have O2:=Lib.hid (OwnA.chg O1.out d2 (fun b hb e=>(L1.out.kk b (.inl hb)).2.1 e))
  have SM:=Lib.hid (show Calls Tryz.prog 23 #[.slice none 0 0,.slice none 0 0] v2 _ from KG v2 none none 0 0 [] (nilR v2) (nilR v2) (by simp))
  replace L2:=Lib.hid L2
  clear s10 K2 d2 T2
  go_wp2_with (go_at_call 23;(with_reducible refine SM.out.mono ?_);rintro e v3 ⟨rfl,hb3⟩)
  go_meet
  exact ⟨A,q,cs,s,_,_,rfl,FIN.out _ _ _ _ _ _ _ _ (L2.out.call hb3) (fun y h=>.inl h) (O2.out.call hb3) hrg.out hcl7⟩
 ·
  have K1:=Lib.hid (SJ hT7.out.k1 hT7.out.o1 st.n hg)
  go_upto_region 33 with (go_at_call 50;(with_reducible refine K1.out.mono ?_);rintro e v1 ⟨A1,a1,SS,rfl,hG,hO1,T1⟩)
  obtain ⟨X1,L1,d1⟩:=hT7.out.codeZ (hT7.out.k1.go hG) T1 (fun y hy=>hO1.block hy)
  have P1:=Sb7.chg d1 (fun h=>hrlt _ h rfl)
  have O1:=Lib.hid (OwnA.chg hO7.out d1 (fun b hb e=>(hT7.out.kk b (.inl hb)).1 e))
  have K2:=Lib.hid (RP L1.k2 L1.o2 st.n hg SS hG)
  have hLn:(kGoL r s SS).length≤131072:=by
   have h1:=Gw hT7.out.k1 (b:=true) (hG true)
   have h2:=Gw hT7.out.k1 (b:=false) (hG false)
   unfold kGoL kGoB
   rw [List.length_append]
   omega
  obtain ⟨LL,hLL⟩:∃ L,kGoL r s SS=L:=⟨_,rfl⟩
  rw [hLL] at K2 hO1 hLn
  try rw [hLL]
  clear s0 s10 K1 T1
  have s10:v1.cell? ⟨rs,10,none⟩=some (.int .i64 st.n):=P1.cell 10
  replace L1:=Lib.hid L1
  replace hO1:=Lib.hid hO1
  replace hLL:=Lib.hid hLL
  replace d1:=Lib.hid d1
  go_upto_region 34 with (go_at_call 51;(with_reducible refine K2.out.mono ?_);rintro e v2 ⟨A2,a2,rfl,hO2,T2⟩)
  obtain ⟨Y2,L2,d2⟩:=L1.out.docZ (L1.out.k2.go hG) T2 (fun y hy=>hO2.block hy)
  have O2:=Lib.hid (OwnA.chg O1.out d2 (fun b hb e=>(L1.out.kk b (.inl (.inl hb))).2.1 e))
  have SM:=Lib.hid (KG v2 A1 A2 a1 a2 LL (OwnA.chg hO1.out d2 (fun b hb e=>(L1.out.kk b (.inr hb)).2.1 e)).reads hO2.reads (by omega))
  replace L2:=Lib.hid L2
  clear s10 K2 d2 T2
  go_wp2_with (go_at_call 23;(with_reducible refine SM.out.mono ?_);rintro e v3 ⟨rfl,hb3⟩)
  go_meet
  exact ⟨A,q,cs,_,_,_,rfl,FIN.out _ _ _ _ _ _ _ _ (L2.out.call hb3) (fun y h=>.inl (.inl (.inl h))) (O2.out.call hb3) hrg.out hcl7⟩
set_option maxRecDepth 100000 in
set_option maxHeartbeats 64000000 in
theorem Db:Ei.2.2.1:=by
 intro r _ _ _ _ _ _ _ hy _ _ _ _ _ _ _ _ _ _ _ _ _ _ _ _ _ _ _ _ _ _ _ _ _ _ _ _ _ _ _ _ _ u64 _ _ _ _ _ _ _ _ _ _ _ _ _ _ _ _ _ _ _ _ _ _ _ _ _ _ _ _ _ _ _ _ _ _ _ _ _ _ _ _ _ _ _ _ _ _ _ _ _ _ _ _ _ _ _ _ _ _ _ _ _ _ _ _ _ _ _ _ _ _ _ _ _ _ _ _ _ _ _ _ _ _ _ _ _ _ _ _ _ _ _ _ _ _ _ _ _ _ _ _ _ _ _ _ _ _ _ _ _ _ _ _ _ _ _ _ _ _ _ _ _ _ _ _ _ _ _ _ _ _ _ _ _ _ _ _ _ _ _ _ _ _ _ _ _ _ _ _ _ _ _ _ _ _ _ _ _ _ _ _ _ _ _ _ _ _ _ _ _ _ _ _ _ _ _ _ _ _ _ _ _ _ _ _ _ _ _ _ _ _ _ _ _ _ _ _ _ _ _ _ _ _ _ _ _ _ _ _ _ _ _ _ _ _ _ _ _ _ _ _ _ _ _ _ _ _ _ _ _ _ _ _ _ _ _ _ A q cs s _ _ _ _ _ _ st _ _ _ _ hwfs _ _ rs _ hrlt _ _ _ _ ck hck w7 _ _ Sb7 s0 _ _ _ _ _ _ hT7 hO7 hrg hcl7 _ FIN _ _ k1 _ _
 have s1:w7.cell? ⟨rs,1,none⟩=some (.int .i64 st.tu.p):=Sb7.cell 1
 have s2:w7.cell? ⟨rs,2,none⟩=some (.bool st.tu.v):=Sb7.cell 2
 have s3:w7.cell? ⟨rs,3,none⟩=some (.int .u64 st.tu.hi):=Sb7.cell 3
 have s4:w7.cell? ⟨rs,4,none⟩=some (.int .u64 st.tu.lo):=Sb7.cell 4
 have s5:w7.cell? ⟨rs,5,none⟩=some (.bool st.tu.v'):=Sb7.cell 5
 have s6:w7.cell? ⟨rs,6,none⟩=some (.int .u64 st.tu.hi'):=Sb7.cell 6
 have s7:w7.cell? ⟨rs,7,none⟩=some (.int .u64 st.tu.lo'):=Sb7.cell 7
 have s8:w7.cell? ⟨rs,8,none⟩=some (.int .i64 st.tu.sp):=Sb7.cell 8
 have s9:w7.cell? ⟨rs,9,none⟩=some (.int .i64 st.tu.dp):=Sb7.cell 9
 have s10:w7.cell? ⟨rs,10,none⟩=some (.int .i64 st.n):=Sb7.cell 10
 have s11:w7.cell? ⟨rs,11,none⟩=some (.int .i64 st.bk):=Sb7.cell 11
 have K1:=Om hT7.out.k1 hT7.out.o1 st.tu hwfs.out.2 ck hck st.n
 have hI1:=hT7.out.k1.touch (t:=st.tu) ck st.n
 obtain ⟨fV,hfV⟩:∃ v,AR r s st.tu ck st.n=v:=⟨_,rfl⟩
 rw [hfV] at K1
 replace hfV:=Lib.hid hfV
 obtain ⟨fo,hfo⟩:∃ v,Bv r s st.tu ck=v:=⟨_,rfl⟩
 rw [hfo] at K1
 replace hfo:=Lib.hid hfo
 obtain ⟨sx,hsx⟩:∃ v,E2 r s st.tu ck st.n=v:=⟨_,rfl⟩
 rw [hsx] at K1
 rw [hsx] at hI1
 replace hsx:=Lib.hid hsx
 replace K1:=Lib.hid K1
 replace hI1:=Lib.hid hI1
 go_upto_region 28 with (go_at_call 48;(with_reducible refine K1.out.mono ?_);rintro e v1 ⟨rfl,T1⟩)
 change Code.wp _ _ _ _ (v1.alloc (.cells fV.entA 52))
 obtain ⟨X1,L1,d1⟩:=hT7.out.code hI1.out T1
 have BA:=Blk.new v1 52 fV.entA
 have hbA:=Aa (Below.refl v1.heap.size v1) (.cells fV.entA 52)
 have hzA:(v1.alloc (.cells fV.entA 52)).heap.size=v1.heap.size+1:=World.size_alloc _ _
 have L2:=L1.made (Z:=fun y=>y=v1.heap.size) hbA (fun y hy=>by omega)
 have P2:=(Sb7.chg d1 (fun h=>hrlt _ h rfl)).call hbA
 have O2:=(OwnA.chg hO7.out d1 (fun b hb e=>(hT7.out.kk b (.inl hb)).1 e)).call hbA
 generalize v1.alloc (.cells fV.entA 52)=v2 at *
 obtain ⟨ra,hra⟩:∃ r,v1.heap.size=r:=⟨_,rfl⟩
 rw [hra] at BA L2
 try rw [hra]
 clear s0 s1 s2 s3 s4 s5 s6 s7 s8 s9 s10 s11 K1 T1 d1
 have s1:v2.cell? ⟨rs,1,none⟩=some (.int .i64 st.tu.p):=P2.cell 1
 have s2:v2.cell? ⟨rs,2,none⟩=some (.bool st.tu.v):=P2.cell 2
 have s3:v2.cell? ⟨rs,3,none⟩=some (.int .u64 st.tu.hi):=P2.cell 3
 have s4:v2.cell? ⟨rs,4,none⟩=some (.int .u64 st.tu.lo):=P2.cell 4
 have s5:v2.cell? ⟨rs,5,none⟩=some (.bool st.tu.v'):=P2.cell 5
 have s6:v2.cell? ⟨rs,6,none⟩=some (.int .u64 st.tu.hi'):=P2.cell 6
 have s7:v2.cell? ⟨rs,7,none⟩=some (.int .u64 st.tu.lo'):=P2.cell 7
 have s8:v2.cell? ⟨rs,8,none⟩=some (.int .i64 st.tu.sp):=P2.cell 8
 have s9:v2.cell? ⟨rs,9,none⟩=some (.int .i64 st.tu.dp):=P2.cell 9
 have s10:v2.cell? ⟨rs,10,none⟩=some (.int .i64 st.n):=P2.cell 10
 have s11:v2.cell? ⟨rs,11,none⟩=some (.int .i64 st.bk):=P2.cell 11
 have K2:=ML L2.k2 L2.o2 st.tu hwfs.out.2 ck hck st.n
 rw [hfV.out,hfo.out,hsx.out] at K2
 replace K2:=Lib.hid K2
 replace BA:=Lib.hid BA
 replace O2:=Lib.hid O2
 replace P2:=Lib.hid P2
 replace L2:=Lib.hid L2
 clear L1 hbA hzA
 go_upto_region 29 with (go_at_call 49;(with_reducible refine K2.out.mono ?_);rintro e v3 ⟨rfl,T2⟩)
 change Code.wp _ _ _ _ (v3.alloc (.cells fV.entA 52))
 obtain ⟨Y1,L3,d3⟩:=L2.out.doc hI1.out T2
 have BB:=Blk.new v3 52 fV.entA
 have hbB:=Aa (Below.refl v3.heap.size v3) (.cells fV.entA 52)
 have L5:=L3.call hbB
 have BA5:=(BA.out.chg d3 (fun e=>(L2.out.kk ra (.inr rfl)).2.1 e)).call hbB
 have O5:=(OwnA.chg O2.out d3 (fun b hb e=>(L2.out.kk b (.inl (.inl hb))).2.1 e)).call hbB
 generalize v3.alloc (.cells fV.entA 52)=v5 at *
 obtain ⟨rc,hrc⟩:∃ r,v3.heap.size=r:=⟨_,rfl⟩
 rw [hrc] at BB
 try rw [hrc]
 have hEN:∀ W,(binOp .neq 52 fV.val fV.val).run Tryz.prog W=.ok (.bool false) W:=fun W=>by rw [KP,entB_self];rfl
 replace L5:=Lib.hid L5
 replace O5:=Lib.hid O5
 clear s1 s2 s3 s4 s5 s6 s7 s8 s9 s10 s11 K2 T2 d3 L3 hbB
 have hoo:(fo != fo)=false:=by simp
 go_wp2_with (first
  | (refine Am rfl (.tmp 22) rfl ⟨ra,0,none⟩ rfl fV (D7 BA5) ?_)
  | (refine Am rfl (.tmp 24) rfl ⟨rc,0,none⟩ rfl fV (D7 BB) ?_))
 go_meet
 exact ⟨A,q,cs,_,_,_,rfl,FIN.out _ _ _ _ _ _ _ _ L5.out (fun y h=>.inl (.inl h)) O5.out hrg.out hcl7⟩
end Go.Proofs.YteklkljndchjiaaGreat
