/- tables: Live, Looks, Free, Cookie, Drop and Go of tables told by their blocks. tables: a cookie and its entry, in plain words. tables: tables in a law's world: what is true of them, and the blocks that are not their own. tables: what stays true of tables, in plain words; all entries. tables: the document's Looks, Live, free. tables: the document's Drop and Go. -/
import Derived.Test.YteklkljndchjiaaGreatJ19
import Derived.Test.YteklkljndchjiaaGreatJ45
import Derived.Test.YteklkljndchjiaaGreatJ42
import Derived.Test.YteklkljndchjiaaGreatJ26
import Derived.Test.YteklkljndchjiaaGreatJ34
import Derived.Test.YteklkljndchjiaaGreatJ43
import Derived.Test.YteklkljndchjiaaGreatJ40
import Derived.Deep.LoopGhost
namespace Go.Proofs.YteklkljndchjiaaGreat
open Go Go.RowKit Go.Deep Go.Maps Go.ChangeMaps
theorem Gu (x:Slt):∀ u ∈ x.ent,u.oneCell'=true:=fun u hu=>by
 unfold Slt.ent at hu
 simp at hu
 rcases hu with rfl | rfl | rfl | rfl | rfl | rfl | rfl | rfl | rfl | rfl | rfl | rfl | rfl | rfl <;> rfl
def selS (S S':Nat→TSt) (k:Nat):Nat→TSt:=fun i=>if i<k then S' i else S i
theorem F8 (S S':Nat→TSt):selS S S' 0=S:=by
 funext i
 exact if_neg (by omega)
theorem Hx (S S':Nat→TSt) (k:Nat):selS S S' k k=S k:=if_neg (by omega)
theorem GX (S S':Nat→TSt) (k:Nat):updS (selS S S' k) k (S' k)=selS S S' (k+1):=by
 funext i
 unfold updS selS
 by_cases e:i=k
 ·
  subst e
  rw [if_pos rfl,if_pos (by omega)]
 ·
  rw [if_neg e]
  by_cases h:i<k
  · rw [if_pos h,if_pos (by omega)]
  · rw [if_neg h,if_neg (by omega)]
def entsL (n p:Nat) (S:Nat→TSt):List Slt:=catF (fun i=>liveL n (S i)) p
def dropL (n:Nat) (bk:Int) (s:TSt):List Nat:=allL s.E (fun x=>x.bk==bk) n
theorem Ed (n:Nat) (E:Nat→Slt) (P:Slt→Bool):(Aq E (allL E P n)).length≤n:=by
 unfold Aq
 rw [List.length_map]
 exact Eb E P n
theorem SE {G now nw:Int} {M:LM} {S D:List Int} (h:GoS G now nw M S) (k:GoS G now nw M D):S=D:=by
 refine Nw S D h.pw k.pw ?_
 cases hg:goOk now nw
 · rw [h.no hg,k.no hg]
 · exact (List.perm_ext_iff_of_nodup h.nd k.nd).2 fun x=>(h.mem hg x).trans (k.mem hg x).symm
section
variable {w w':World} {g p n pb q:Nat} {r:TRule} {S:Nat→TSt} {X F:Nat→Prop} {gs sbs:Nat→Nat} {Xs:Nat→Nat→Prop}
theorem TabsW.congr {S':Nat→TSt} (h:TabsW w g r p n S X pb q gs sbs Xs) (e:∀ i,i<p→S i=S' i):TabsW w g r p n S' X pb q gs sbs Xs :=
 ⟨h.blk,h.ps,fun i hi=>e i hi ▸ h.tab i hi,h.off,h.dis,h.all,h.pbl,h.np,h.p1,h.p16⟩
theorem Qn (h:TabsP w g r p n S X) :
  Calls Tryz.prog 27 #[.pointer (some ⟨g,0,none⟩)] w fun e w'=>∃ (A:Option Addr) (a:Nat),e=.returned (.slice A (entsL n p S).length a)∧OwnE w' w.heap.size A a (entsL n p S)∧Below w.heap.size w w':=by
 obtain ⟨pb,q,gs,sbs,Xs,h⟩:=h
 have hlt:=fun y (hy:X y)=>h.lt hy
 have hn:=EL (h.tab 0 (by have:=h.p1;omega))
 exact J8 (cells:=Slt.ent) Gu g pb p q gs h.p16 (fun i=>liveL n (S i)) (fun i=>Nat.le_trans (Ed _ _ _) hn) w (fun W=>TabsW W g r p n S X pb q gs sbs Xs) h (fun W hW=>⟨hW.read.c11,hW.read.ps⟩)
  (fun F W W' hW hc hF=>hW.chg hc fun y hy e=>by have:=hF y e;have:=hlt y hy;omega) (fun i W hi hW=>Rj (hW.tab i hi))
theorem KL (h:TabsP w g r p n S X) (x:Slt) (hx:0≤x.gen∧x.gen<18446744073709551616):Calls Tryz.prog 32 #[.pointer (some ⟨g,0,none⟩),x.val] w fun e w'=>e=.returned (.int .u64 (makeI r.wd r.sl r.gn r.ka r.kb x.t x.sl x.gen))∧Below w.heap.size w w':=by
 obtain ⟨pb,q,gs,sbs,Xs,h⟩:=h
 exact Hi h.read x hx
theorem Ry (g r p n pb q:_) (gs:Nat→Nat) (Sk:Nat→Nat→TSt):TableT (fun k W X'=>∃ sbs Xs,TabsW W g r p n (Sk k) X' pb q gs sbs Xs) g pb p q gs where
 lt:=fun ⟨_,_,h⟩ _ hy=>h.lt hy
 chg:=fun ⟨_,_,h⟩ hc hF=>⟨_,_,h.chg hc hF⟩
 cells:=fun ⟨_,_,h⟩=>⟨h.read.c11,h.read.ps⟩
def P9 (w w':World) (A:Option Addr) (g:Nat) (r:TRule) (p n:Nat) (S:Nat→TSt) (X:Nat→Prop):Prop :=
 ∃ X',TabsP w' g r p n S X'∧Chg X w w'∧(∀ y,X' y→X y∨w.heap.size≤y)∧∀ y,X' y→¬ InB A y
def AX (n:Nat) (bk:Int) (s:TSt):TSt:=dropS n s (dropL n bk s)
theorem Qo (h:TabsP w g r p n S X) (hTI:∀ i,i<p→TI n (S i)) (bk:Int) :
  Calls Tryz.prog 24 #[.pointer (some ⟨g,0,none⟩),.int .i64 bk] w fun e w'=>∃ (A:Option Addr) (a:Nat),e=.returned (.slice A (catF (fun i=>Aq (S i).E (dropL n bk (S i))) p).length a)∧OwnE w' w.heap.size A a (catF (fun i=>Aq (S i).E (dropL n bk (S i))) p)∧P9 w w' A g r p n (fun i=>AX n bk (S i)) X:=by
 obtain ⟨pb,q,gs,sbs,Xs,h⟩:=h
 have hlt:=fun y (hy:X y)=>h.lt hy
 have hn:=EL (h.tab 0 (by have:=h.p1;omega))
 refine (J9 (cells:=Slt.ent) Gu g pb p q gs h.p16 (fun i=>Aq (S i).E (dropL n bk (S i))) (fun i=>Nat.le_trans (Ed _ _ _) hn) bk w X hlt _ (Ry g r p n pb q gs (selS S fun i=>AX n bk (S i))) ⟨sbs,Xs,by rw [F8];exact h⟩ ?_).mono ?_
 ·
  rintro k W X' hk ⟨sbs1,Xs1,h1⟩
  have h2:=h1.tab k hk
  rw [Hx] at h2
  refine (Rl h2 (hTI k hk).sl bk).mono ?_
  rintro e w1 ⟨A,a,rfl,hO,hT⟩
  obtain ⟨Xs2,X2,k1,k2,k3⟩:=h1.part hk hT
  refine ⟨A,a,rfl,hO,X2,⟨sbs1,Xs2,?_⟩,k2,k3⟩
  have e:=GX S (fun i=>AX n bk (S i)) k
  try dsimp only at e
  rw [← e]
  exact k1
 ·
  rintro e w1 ⟨A,a,rfl,hO,X',⟨sbs1,Xs1,h1⟩,h2,h3,h4⟩
  exact ⟨A,a,rfl,hO,X',⟨_,_,_,_,_,h1.congr fun i hi=>if_pos hi⟩,h2,h3,h4⟩
theorem Mo {s:TSt} {nw:Int} (h:goOk s.now nw=false):goTab n s nw []=s:=by
 unfold goTab goAll goN
 rw [h]
 rfl
theorem SF (h:TabsP w g r p n S X) (hTI:∀ i,i<p→TI n (S i)) (nw:Int) (hk:∀ i,i<p→goOk (S i).now nw=true) :
  Calls Tryz.prog 21 #[.pointer (some ⟨g,0,none⟩),.int .i64 nw] w fun e w'=>∃ (A:Option Addr) (a:Nat) (SS:Nat→List Int),e=.returned (.tuple #[.slice A (catF (fun i=>Au (S i) (SS i)) p).length a,.int .i64 0])∧(∀ i,i<p→GoS r.G (S i).now nw (S i).M (SS i))∧OwnE w' w.heap.size A a (catF (fun i=>Au (S i) (SS i)) p)∧P9 w w' A g r p n (fun i=>goTab n (S i) nw (SS i)) X:=by
 obtain ⟨pb,q,gs,sbs,Xs,h⟩:=h
 have hlt:=fun y (hy:X y)=>h.lt hy
 have hn:=EL (h.tab 0 (by have:=h.p1;omega))
 have hch:∀ i,∃ L:List Int,L.length≤4096∧∀ D,GoS r.G (S i).now nw (S i).M D→D.length≤4096→L=D:=fun i=>by
  by_cases hE:∃ D:List Int,GoS r.G (S i).now nw (S i).M D∧D.length≤4096
  ·
   obtain ⟨D,h1,h2⟩:=hE
   exact ⟨D,h2,fun D' h3 _=>SE h1 h3⟩
  · exact ⟨[],by simp,fun D h1 h2=>absurd ⟨D,h1,h2⟩ hE⟩
 obtain ⟨SS,hSS⟩:=Classical.axiomOfChoice hch
 refine (Mm (cells:=Slt.ent) Gu g pb p q gs h.p16 h.p1 (fun i=>Au (S i) (SS i)) (fun i=>by unfold Au;rw [List.length_map];exact (hSS i).1) nw w X hlt (fun k W X'=>(∀ i,i<k→GoS r.G (S i).now nw (S i).M (SS i))∧∃ sbs Xs,TabsW W g r p n (selS S (fun i=>goTab n (S i) nw (SS i)) k) X' pb q gs sbs Xs) ⟨fun ⟨_,_,_,h⟩ _ hy=>h.lt hy,fun ⟨k1,_,_,h⟩ hc hF=>⟨k1,_,_,h.chg hc hF⟩,fun ⟨_,_,_,h⟩=>⟨h.read.c11,h.read.ps⟩⟩ ⟨fun i hi=>by omega,sbs,Xs,by rw [F8];exact h⟩ ?_).mono ?_
 ·
  rintro k W X' hkp ⟨hb,sbs1,Xs1,h1⟩
  have h2:=h1.tab k hkp
  rw [Hx] at h2
  refine (Ri h2 (hTI k hkp).sl (hTI k hkp).hasN nw).mono ?_
  rintro e w1 ⟨A,a,D,rfl,hG,hO,hR,hT⟩
  have hD:SS k=D:=(hSS k).2 D hG (Nat.le_trans (CE n D hG.nd hR) hn)
  subst hD
  obtain ⟨Xs2,X2,k1,k2,k3⟩:=h1.part hkp hT
  refine ⟨A,a,?_,hO,X2,⟨fun i hi=>?_,sbs1,Xs2,?_⟩,k2,k3⟩
  ·
   unfold goE Au
   rw [hk k hkp,List.length_map]
   rfl
  ·
   by_cases e:i=k
   ·
    subst e
    exact hG
   · exact hb i (by omega)
  ·
   have e:=GX S (fun i=>goTab n (S i) nw (SS i)) k
   try dsimp only at e
   rw [← e]
   exact k1
 ·
  rintro e w1 ⟨A,a,rfl,hO,X',⟨hb,sbs1,Xs1,h1⟩,h2,h3,h4⟩
  exact ⟨A,a,SS,rfl,hb,hO,X',⟨_,_,_,_,_,h1.congr fun i hi=>if_pos hi⟩,h2,h3,h4⟩
theorem NV (h:TabsP w g r p n S X) (hTI:∀ i,i<p→TI n (S i)) (nw:Int) (hk:goOk (S 0).now nw=false) :
  Calls Tryz.prog 21 #[.pointer (some ⟨g,0,none⟩),.int .i64 nw] w fun e w'=>e=.returned (.tuple #[.slice none 0 0,.int .i64 15])∧D6 w w' g r p n S X:=by
 obtain ⟨pb,q,gs,sbs,Xs,h⟩:=h
 have hlt:=fun y (hy:X y)=>h.lt hy
 have hp:0<p:=by have:=h.p1;omega
 refine (Mn g pb p q gs h.p16 h.p1 nw w X hlt _ (Ry g r p n pb q gs (fun _=>S)) ⟨sbs,Xs,h⟩ 15 (by omega) ?_).mono ?_
 ·
  rintro W X' ⟨sbs1,Xs1,h1⟩
  refine (Ri (h1.tab 0 hp) (hTI 0 hp).sl (hTI 0 hp).hasN nw).mono ?_
  rintro e w1 ⟨A,a,D,rfl,hG,hO,hR,hT⟩
  rw [hG.no hk,Mo hk] at hT
  obtain ⟨Xs2,X2,k1,k2,k3⟩:=h1.part hp hT
  rw [Dn] at k1
  refine ⟨A,D.length,a,?_,X2,⟨sbs1,Xs2,k1⟩,k2,k3⟩
  unfold goE
  rw [hk]
  rfl
 ·
  rintro e w1 ⟨rfl,X',⟨sbs1,Xs1,h1⟩,h2,h3⟩
  exact ⟨rfl,X',⟨_,_,_,_,_,h1⟩,h2,h3⟩
end
theorem IK {wd:Bool} {sl gn a b:Int} {t:Tup} {c:Nat} {gen:Int} {n:Nat} (hl:layOk wd sl gn=true) (hc:c<2 ^ sl.toNat) (hg:0≤gen∧gen<18446744073709551616) (hn:n<18446744073709551616) :
  makeI wd sl gn a b t c gen=n ↔ BS wd sl gn a b t n=true∧Cs wd sl gn a b t n=c∧D4 wd sl gn a b t n=((gen.toNat % 2 ^ gn.toNat:Nat):Int):=by
 obtain ⟨A,B,rfl,rfl,h12,hAB⟩:=C9 hl
 obtain ⟨G,rfl⟩:∃ G:Nat,gen=G:=⟨gen.toNat,by omega⟩
 rw [Int.toNat_natCast] at hc
 rw [Int.toNat_natCast,Int.toNat_natCast]
 have hpk:Bb wd A B c=true:=by
  unfold Bb
  rw [hl,Bool.true_and,decide_eq_true_eq,Int.toNat_natCast]
  exact ⟨by omega,by exact_mod_cast hc⟩
 have hA63:A+B≤63:=by split at hAB <;> omega
 have hpl:=Ga (gn:=B) (gen:=G) hc
 have h63:=pow63 (A+B) hA63
 obtain ⟨h,W,hh,hW,hW2,hcm⟩:=E7 wd A B a b t n hn
 obtain ⟨h',W',hh',hW',-,hcm'⟩:=E7 wd A B a b t (packV A B c G) (by omega)
 obtain rfl:h'=h:=by have:=hh'.symm.trans hh;omega
 obtain rfl:W'=W:=by have:=hW'.symm.trans hW;omega
 obtain ⟨W'',hW'',-,hnar⟩:=Ic wd A B n hn
 obtain rfl:W''=W':=by have:=hW''.symm.trans hW;omega
 have hAW:A+B≤W'':=by
  unfold layW at hW
  rw [hl,if_pos rfl] at hW
  cases wd
  ·
   simp at hAB hW
   omega
  ·
   simp at hAB hW
   omega
 have hpw:2 ^ (A+B)≤2 ^ W'':=Nat.pow_le_pow_right (by omega) hAW
 have hmk:makeI wd A B a b t c G=((hideV W'' h' (packV A B c G):Nat):Int):=by
  unfold makeI
  rw [hpk,if_pos rfl,Gl hpk,hcm']
 have hop:BS wd A B a b t n=(decide (n<2 ^ W'') && decide (hideV W'' h' n<2 ^ (A+B))):=by
  unfold BS unpOk
  rw [hnar,hcm,hl,Bool.true_and,Int.toNat_natCast,Int.toNat_natCast,Int.toNat_natCast]
 rw [hmk,hop,Bool.and_eq_true,decide_eq_true_eq,decide_eq_true_eq]
 unfold Cs D4
 rw [hnar,hcm,Int.toNat_natCast]
 have hU:hideV W'' h' n<2 ^ (A+B)→unpS wd A B (hideV W'' h' n)=((hideV W'' h' n % 2 ^ A:Nat):Int)∧unpG wd A B (hideV W'' h' n)=((hideV W'' h' n / 2 ^ A:Nat):Int):=fun e=>Km (by
  unfold unpOk
  rw [hl,Bool.true_and,decide_eq_true_eq,Int.toNat_natCast,Int.toNat_natCast]
  exact e)
 constructor
 ·
  intro e
  have e1:hideV W'' h' (packV A B c G)=n:=by exact_mod_cast e
  have e2:hideV W'' h' n=packV A B c G:=by rw [← e1];exact JF W'' h' (by omega)
  have e3:n<2 ^ W'':=e1 ▸ Gb _ _ _
  have hU2:=hU (by rw [e2];exact hpl)
  refine ⟨⟨e3,by rw [e2];exact hpl⟩,?_,?_⟩
  · rw [if_pos (by simpa using e3),hU2.1,e2,LF hc]
  · rw [if_pos (by simpa using e3),hU2.2,e2,Nj hc]
 ·
  rintro ⟨⟨e1,e2⟩,e3,e4⟩
  obtain ⟨u1,u2⟩:=hU e2
  rw [if_pos (by simpa using e1),u1] at e3
  rw [if_pos (by simpa using e1),u2] at e4
  have e5:hideV W'' h' n % 2 ^ A=c:=by exact_mod_cast e3
  have e6:hideV W'' h' n / 2 ^ A=G % 2 ^ B:=by exact_mod_cast e4
  have e7:packV A B c G=hideV W'' h' n:=by
   unfold packV
   rw [← e5,← e6]
   exact Nat.div_add_mod' _ _
  rw [e7,JF _ _ e1]
def ckOf (r:TRule) (x:Slt):Int:=makeI r.wd r.sl r.gn r.ka r.kb x.t x.sl x.gen
theorem Qp (wd:Bool) (sl gn a b:Int) (t:Tup) (c:Int) {gen:Int} (hg:0≤gen∧gen<18446744073709551616):∃ n:Nat,makeI wd sl gn a b t c gen=n∧n<18446744073709551616:=by
 unfold makeI
 cases hp:Bb wd sl gn c
 · exact ⟨0,rfl,by omega⟩
 ·
  obtain ⟨A,B,C,rfl,rfl,rfl,-,hAB,hC⟩:=Nm hp
  obtain ⟨G,rfl⟩:∃ G:Nat,gen=G:=⟨gen.toNat,by omega⟩
  have hpl:=Ga (gn:=B) (gen:=G) hC
  have h63:=pow63 (A+B) (by split at hAB <;> omega)
  rw [if_pos rfl,Gl hp]
  obtain ⟨h,W,-,-,hW2,hcm⟩:=E7 wd A B a b t (packV A B C G) (by omega)
  exact ⟨_,hcm,Nat.lt_of_lt_of_le (Gb _ _ _) (I8 W hW2)⟩
section
variable {r:TRule} {n k:Nat} {s:TSt} {t:Tup}
theorem IL (h:AF r=true):layOk r.wd r.sl r.gn=true:=by
 unfold AF at h
 simp only [Bool.and_eq_true] at h
 exact h.1.1.1
theorem Qq (hr:AF r=true) (hn:n=2 ^ r.sl.toNat) (hi:TI n s) (hk:k<18446744073709551616) :
  Bp r n s t k=true ↔ ∃ c:Nat,c<n∧Cs r.wd r.sl r.gn r.ka r.kb t k=c∧(s.E c).used=true∧(s.E c).t=t∧ckOf r (s.E c)=k:=by
 have hl:=IL hr
 obtain ⟨A,B,hA,hB,-,hAB⟩:=C9 hl
 have h63:B≤63:=by split at hAB <;> omega
 have hmask:∀ x:Int,0≤x→x<18446744073709551616→bits BinOp.and IntKind.u64 x (maskI r.gn)=((x.toNat % 2 ^ r.gn.toNat:Nat):Int):=fun x h1 h2=>by
  obtain ⟨X,rfl⟩:∃ X:Nat,x=X:=⟨x.toNat,by omega⟩
  rw [hB,Int.toNat_natCast,Int.toNat_natCast]
  exact E6 X B (by omega) (by omega)
 unfold Bp Be
 simp only [Bool.and_eq_true,decide_eq_true_eq,beq_iff_eq,DP,Io]
 constructor
 ·
  rintro ⟨ho,⟨c,hc,hcn,hu⟩,-,ht,hb⟩
  rw [hc,Int.toNat_natCast] at ht hb
  have hgr:=hi.gr c hcn
  rw [hmask _ hgr.1 hgr.2] at hb
  refine ⟨c,hcn,hc,hu,ht,?_⟩
  unfold ckOf
  rw [ht,hi.sl c hcn]
  exact (IK hl (hn ▸ hcn) hgr hk).2 ⟨ho,hc,hb.symm⟩
 ·
  rintro ⟨c,hcn,hc,hu,ht,hck⟩
  have hgr:=hi.gr c hcn
  unfold ckOf at hck
  rw [ht,hi.sl c hcn] at hck
  obtain ⟨h1,h2,h3⟩:=(IK hl (hn ▸ hcn) hgr hk).1 hck
  refine ⟨h1,⟨c,h2,hcn,hu⟩,by omega,?_,?_⟩
  ·
   rw [h2,Int.toNat_natCast]
   exact ht
  · rw [h2,Int.toNat_natCast,hmask _ hgr.1 hgr.2,h3]
theorem Rz (hr:AF r=true) (hn:n=2 ^ r.sl.toNat) (hi:TI n s) (hk:k<18446744073709551616) {c:Nat} (hc:c<n) (hu:(s.E c).used=true) (hck:ckOf r (s.E c)=k):Bp r n s (s.E c).t k=true∧Cg r n s (s.E c).t k=s.E c:=by
 have hck2:=hck
 unfold ckOf at hck2
 rw [hi.sl c hc] at hck2
 obtain ⟨h1,h2,h3⟩:=(IK (IL hr) (hn ▸ hc) (hi.gr c hc) hk).1 hck2
 have hf:Bp r n s (s.E c).t k=true:=(Qq hr hn hi hk).2 ⟨c,hc,h2,hu,rfl,hck⟩
 refine ⟨hf,?_⟩
 unfold Cg findV
 unfold Bp at hf
 rw [Bool.and_eq_true] at hf
 rw [if_pos h1,if_pos hf.2,h2,Int.toNat_natCast]
theorem F9 (s:TSt) (t:Tup) (k:Int):(findSC r n s t k).E=s.E∧(findSC r n s t k).L=s.L∧(findSC r n s t k).M=s.M∧(findSC r n s t k).now=s.now:=by
 unfold findSC lookS
 split
 · split <;> exact ⟨rfl,rfl,rfl,rfl⟩
 · exact ⟨rfl,rfl,rfl,rfl⟩
theorem DA (hr:AF r=true) (hn:n=2 ^ r.sl.toNat) (hi:TI n s) (t:Tup) (bk fl:Int) (h:openE s t bk fl=0) :
  ∃ k c:Nat,Dz r s t bk fl=k∧k<18446744073709551616∧Bp r n (openS r.cfg n s t bk fl) t k=true∧Cg r n (openS r.cfg n s t bk fl) t k=openV r.cfg s t bk fl∧c<n∧(s.E c).used=false∧(openS r.cfg n s t bk fl).E=updE s.E c (openV r.cfg s t bk fl)∧(openV r.cfg s t bk fl).t=t∧(openV r.cfg s t bk fl).bk=bk∧(openV r.cfg s t bk fl).sl=c∧(openV r.cfg s t bk fl).gen=(s.E c).gen∧(openV r.cfg s t bk fl).used=true:=by
 cases ho:Bh t bk fl
 ·
  unfold openE at h
  rw [ho] at h
  cases h
 ·
  cases hL:s.L with
  | nil =>
   unfold openE at h
   rw [ho,hL] at h
   cases h
  | cons i l =>
   have hrng:=hi.rng i (by rw [hL];exact List.mem_cons_self)
   obtain ⟨c,rfl⟩:∃ c:Nat,i=(c:Int):=⟨i.toNat,by omega⟩
   have hc:c<n:=by omega
   have hnu:(s.E c).used=false:=by
    cases hu:(s.E c).used
    · rfl
    · exact absurd (by rw [hL];exact List.mem_cons_self) ((hi.used c hc).1 hu)
   have hv:=F7 (c:=r.cfg) ho hL
   have hs:=GJ (c:=r.cfg) (n:=n) ho hL
   have hE:(openS r.cfg n s t bk fl).E=updE s.E c (openV r.cfg s t bk fl):=by rw [hs,Int.toNat_natCast]
   have hEc:(openS r.cfg n s t bk fl).E c=openV r.cfg s t bk fl:=by rw [hE,Ad]
   have hi':TI n (openS r.cfg n s t bk fl):=hi.open t bk fl
   rw [Int.toNat_natCast] at hv
   have ht:(openV r.cfg s t bk fl).t=t:=by rw [hv];rfl
   have hu:(openV r.cfg s t bk fl).used=true:=by rw [hv];rfl
   have hg:(openV r.cfg s t bk fl).gen=(s.E c).gen:=by rw [hv];rfl
   have hsl:(openV r.cfg s t bk fl).sl=c:=by rw [← hEc];exact hi'.sl c hc
   have hgr:=hi.gr c hc
   rw [← hg] at hgr
   have hck:Dz r s t bk fl=ckOf r (openV r.cfg s t bk fl):=by unfold Dz;rw [if_pos h];rfl
   obtain ⟨k,hk,hk2⟩:=Qp r.wd r.sl r.gn r.ka r.kb (openV r.cfg s t bk fl).t (openV r.cfg s t bk fl).sl hgr
   have hck2:Dz r s t bk fl=k:=hck.trans hk
   have hF:=Rz hr hn hi' hk2 (c:=c) hc (by rw [hEc];exact hu) (by rw [hEc];exact hk)
   rw [hEc,ht] at hF
   exact ⟨k,c,hck2,hk2,hF.1,hF.2,hc,hnu,hE,ht,by rw [hv];rfl,hsl,hg,hu⟩
theorem KM {t:Tup} {bk fl:Int} (h:openE s t bk fl≠0):openS r.cfg n s t bk fl=s:=by
 cases ho:Bh t bk fl
 · exact Iw ho
 ·
  cases hL:s.L with
  | nil=>exact FE hL
  | cons i l =>
   unfold openE at h
   rw [ho,hL] at h
   exact absurd rfl h
end
section
variable {w0 w w':World} {g p n:Nat} {r:TRule} {S S':Nat→TSt} {K K' F:Nat→Prop}
theorem DB (hr:AF r=true):r.cfg.right:=by
 unfold AF at hr
 simp only [Bool.and_eq_true] at hr
 exact NI hr.1.2
theorem Pa {i:Nat} {s:TSt} (h:∀ i,i<p→TI n (S i)) (hs:TI n s):∀ j,j<p→TI n (updS S i s j):=fun j hj=>by
 by_cases e:j=i
 ·
  subst e
  rw [Bm]
  exact hs
 ·
  rw [Cc S s e]
  exact h j hj
theorem NY {s:TSt} {t:Tup} {k fl:Int} (h:TI n s):TI n (Bn r n s t k fl):=by
 unfold Bn
 split
 · exact h.findSC.touch _ _
 · exact h.findSC
end
def KeepE (n:Nat) (s s':TSt):Prop:=∀ k:Nat,k<n→(s'.E k).used=true→(s.E k).used=true∧(s'.E k).t=(s.E k).t∧(s'.E k).bk=(s.E k).bk
section
variable {n k:Nat} {s s' s2:TSt} {r:TRule} {t:Tup}
theorem KeepE.of_eq (h:s'.E=s.E):KeepE n s s':=fun k _ hu=>by
 rw [h] at hu ⊢
 exact ⟨hu,rfl,rfl⟩
theorem KeepE.trans (h:KeepE n s s') (h2:KeepE n s' s2):KeepE n s s2:=fun k hk hu=>by
 obtain ⟨a1,a2,a3⟩:=h2 k hk hu
 obtain ⟨b1,b2,b3⟩:=h k hk a1
 exact ⟨b1,a2.trans b2,a3.trans b3⟩
theorem JU (P:Nat→Prop) [DecidablePred P] (hE:∀ k:Nat,k<n→s'.E k=if P k then clrS (s.E k) else s.E k):KeepE n s s':=fun k hk hu=>by
 rw [hE k hk] at hu ⊢
 by_cases hp:P k
 ·
  rw [if_pos hp] at hu
  cases hu
 ·
  rw [if_neg hp] at hu ⊢
  exact ⟨hu,rfl,rfl⟩
theorem Mp {c:TCfg} (i fl:Int):KeepE n s (Bd c n s i fl):=by
 cases hc:AG n s i
 ·
  rw [F6 hc]
  exact KeepE.of_eq (AQ _ _ _)
 ·
  obtain ⟨k,rfl,hk,hu⟩:=DP.1 hc
  by_cases h4:nextS (s.E ((k:Int)).toNat).st fl=4
  ·
   rw [DQ hc h4,Int.toNat_natCast]
   intro j hj hu2
   have e:(goS n (lookS n k s) k).E j=updE (lookS n k s).E k (clrS ((lookS n k s).E k)) j:=rfl
   rw [e,AQ] at hu2 ⊢
   by_cases e:j=k
   ·
    subst e
    rw [Ad] at hu2
    cases hu2
   ·
    rw [AP _ _ e] at hu2 ⊢
    exact ⟨hu2,rfl,rfl⟩
  ·
   rw [DT hc h4]
   intro j hj hu2
   have hv:=DS (c:=c) hc h4
   rw [Int.toNat_natCast] at hv
   by_cases e:j=k
   ·
    subst e
    refine ⟨hu,?_,?_⟩
    ·
     show (updE s.E _ (AO c n s j fl) j).t=_
     rw [Int.toNat_natCast,Ad,hv]
     rfl
    ·
     show (updE s.E _ (AO c n s j fl) j).bk=_
     rw [Int.toNat_natCast,Ad,hv]
     rfl
   ·
    have e3:updE s.E ((k:Int)).toNat (AO c n s k fl) j=s.E j:=by rw [Int.toNat_natCast];exact AP _ _ e
    have e4:(updE s.E ((k:Int)).toNat (AO c n s k fl) j).used=true:=hu2
    show _∧(updE s.E ((k:Int)).toNat (AO c n s k fl) j).t=_∧(updE s.E ((k:Int)).toNat (AO c n s k fl) j).bk=_
    rw [e3] at e4 ⊢
    exact ⟨e4,rfl,rfl⟩
theorem FL (k:Int):KeepE n s (findSC r n s t k):=KeepE.of_eq (F9 s t k).1
theorem Jf (k fl:Int):KeepE n s (Bn r n s t k fl):=by
 unfold Bn
 split
 · exact (FL k).trans (Mp _ _)
 · exact FL k
theorem RA (hi:TI n s) {G nw:Int} {S:List Int} (hS:GoS G s.now nw s.M S):KeepE n s (goTab n s nw S) :=
 JU (fun k=>(k:Int) ∈ S) fun k _=>(hi.go hS).2.1 k
theorem NZ (hi:TI n s) (bk:Int):KeepE n s (AX n bk s) :=
 JU (fun k=>((s.E k).used && (s.E k).bk==bk)=true) fun k hk=>(hi.drop (fun x=>x.bk==bk)).2.1 k hk
end
structure LI (r:TRule) (p n:Nat) (S:Nat→TSt) (b:Int):Prop where
 ti:∀ i,i<p→TI n (S i)
 pt:∀ i,i<p→∀ k:Nat,k<n→((S i).E k).used=true→pIx r ((S i).E k).t=i
 now:∀ i,i<p→(S i).now=(S 0).now
 lk:∀ i,i<p→0≤(S i).lk∧(S i).lk≤b
section
variable {r:TRule} {p n:Nat} {S S':Nat→TSt} {b b':Int} {t:Tup}
theorem O0 {c:TCfg} {s:TSt} (i fl:Int):(Bd c n s i fl).now=s.now:=by
 have e:∀ s:TSt,(lookS n i s).now=s.now:=fun s=>by unfold lookS;split <;> rfl
 cases hc:AG n s i
 ·
  rw [F6 hc]
  exact e s
 ·
  by_cases h4:nextS (s.E i.toNat).st fl=4
  ·
   rw [DQ hc h4]
   exact e s
  · rw [DT hc h4]
theorem Mq {α:Type} {f:Nat→List α} {x:α}:∀ {p:Nat},x ∈ catF f p ↔ ∃ i,i<p∧x ∈ f i
 | 0=>⟨fun h=>(by cases h),fun ⟨i,hi,_⟩=>by omega⟩
 | p+1=>by
  rw [catF,List.mem_append,Mq (p:=p)]
  constructor
  ·
   rintro (⟨i,hi,h⟩ | h)
   · exact ⟨i,by omega,h⟩
   · exact ⟨p,by omega,h⟩
  ·
   rintro ⟨i,hi,h⟩
   by_cases e:i=p
   ·
    subst e
    exact .inr h
   · exact .inl ⟨i,by omega,h⟩
theorem IM {α:Type} {f f':Nat→List α}:∀ {p:Nat},(∀ i,i<p→f i=f' i)→catF f p=catF f' p
 | 0,_=>rfl
 | p+1,h=>by
  rw [catF,catF,IM (p:=p) fun i hi=>h i (by omega),h p (by omega)]
theorem Qr {x:Slt}:x ∈ entsL n p S ↔ ∃ i,i<p∧∃ k:Nat,k<n∧((S i).E k).used=true∧(S i).E k=x:=by
 unfold entsL
 rw [Mq]
 exact exists_congr fun i=>and_congr Iff.rfl Qe
theorem GY (hti:∀ i,i<p→TI n (S i)):∀ q,q≤p→(entsL n q S).length+((List.range q).map fun i=>(S i).L.length).sum=q * n
 | 0,_=>by simp [entsL,catF]
 | q+1,hq=>by
  have ih:=GY hti q (by omega)
  have:=Cm (hti q (by omega))
  have e:entsL n (q+1) S=entsL n q S ++ liveL n (S q):=rfl
  rw [e,List.length_append,List.range_succ,List.map_append,List.sum_append,Nat.succ_mul]
  simp
  omega
end
theorem DTabP.doc {w:World} {g n:Nat} {b:Int} {c:TCfg} {s:TSt} {X:Nat→Prop} (h:DTabP w g n b c (dOf n s) X):∃ (fs:Nat) (A:Option Addr) (q:Nat) (B:Option Addr) (q2:Nat),w.cell? ⟨g,5,none⟩=some (.pointer (some ⟨fs,0,none⟩))∧w.cell? ⟨g,7,none⟩=some (.slice A (liveL n s).length q)∧w.cell? ⟨g,9,none⟩=some (.int .i64 s.lk) ∧
  w.cell? ⟨fs,1,none⟩=some (.slice B s.L.length q2)∧OwnE w 0 A q (liveL n s):=by
 obtain ⟨fs,wg,gb,F,Y',A,q,h1,h2,h3,h4,h5,h6,h7,h8,h9,h10,h11⟩:=h
 obtain ⟨B,q2,m1,-⟩:=h2
 exact ⟨fs,A,q,B,q2,h1.cell 5,h1.cell 7,h1.cell 9,m1.cell 1,h4⟩
section
variable {w w':World} {g p n:Nat} {r:TRule} {S:Nat→TSt} {X F:Nat→Prop}
set_option maxRecDepth 100000 in
set_option maxHeartbeats 8000000 in
theorem KN (h:DTabsP w g r p n S X) :
  Calls Tryz.prog 26 #[.pointer (some ⟨g,0,none⟩)] w fun e w'=>∃ (A:Option Addr) (a:Nat),e=.returned (.slice A (entsL n p S).length a)∧OwnE w' w.heap.size A a (entsL n p S)∧Below w.heap.size w w':=by
 obtain ⟨pb,q,gs,Xs,h⟩:=h
 have hp16:=h.p16
 have hn:=GR (h.tab 0 (by have:=h.p1;omega))
 have hlt:=Lib.hid fun y (hy:X y)=>h.lt hy
 replace h:=Lib.hid h
 go_enter Tryz.func26,Tryz.ntmps26
 go_wp2_with fail
 go_loopg [3,4] p (fun gk sv iv wx=>∃ (j:Nat) (A:Option Addr) (a:Nat),j+gk=p∧iv=.int .i64 (j:Nat)∧sv=.slice A (entsL n j S).length a∧OwnE wx w.heap.size A a (entsL n j S)∧Below w.heap.size w wx)
 case atStart=>exact ⟨0,none,0,by omega,rfl,rfl,OwnA.nil _ _,Below.refl _ _⟩
 case round =>
  obtain ⟨j,A,a,hj,rfl,rfl,hO,hb⟩:=hrel
  have h2:=h.out.call hb
  have c11:=h2.read.c11
  by_cases hjp:j<p
  ·
   have hji:(j:Int)<(p:Int):=by omega
   obtain ⟨fs,A2,q2,B,q3,-,c7,-,-,hO2⟩:=(h2.tab j hjp).doc
   have cj:=h2.read.ps j hjp
   have hl1:(entsL n j S).length≤j * 4096:=E4 (fun i=>Nat.le_trans (Ed _ _ _) hn) j
   have hl2:(liveL n (S j)).length≤4096:=Nat.le_trans (Ed _ _ _) hn
   have hl3:j * 4096≤16 * 4096:=Nat.mul_le_mul_right _ (by omega)
   have hes:entsL n (j+1) S=entsL n j S ++ liveL n (S j):=rfl
   have hln:(entsL n (j+1) S).length=(entsL n j S).length+(liveL n (S j)).length:=by rw [hes,List.length_append]
   have hz:=hb.size
   obtain ⟨L0,hL0⟩:∃ L,entsL n j S=L:=⟨_,rfl⟩
   obtain ⟨L1,hL1⟩:∃ L,liveL n (S j)=L:=⟨_,rfl⟩
   rw [hL0] at hO hl1 hes hln
   rw [hL1] at hO2 c7 hl2 hes hln
   rw [hL0]
   replace hes:=Lib.hid hes
   replace hln:=Lib.hid hln
   clear h2 hL0 hL1
   go_wp2_with (at_builtin;(refine Aw rfl (.tmp 14) (.tmp 24) rfl w.heap.size A a L0 L0.length rfl rfl hO A2 q2 L1 L1.length rfl rfl hO2.reads (by omega) hz ?_;intro A9 a9 w9 hO9 hP9))
   go_roundg (gk - 1)
   case measure=>omega
   case rel=>exact ⟨j+1,A9,a9,by omega,by go_num,by rw [hln.out],by rw [hes.out];exact hO9,hP9.below hb hz fun b hb=>(hO.block hb).1⟩
  ·
   obtain rfl:j=p:=by omega
   have hji:¬ (j:Int)<(j:Int):=by omega
   clear h2
   go_wp2_with fail
   go_ret
   exact ⟨A,a,rfl,hO,hb⟩
end
def Mr (w w':World) (A:Option Addr) (g:Nat) (r:TRule) (p n:Nat) (S:Nat→TSt) (X:Nat→Prop):Prop :=
 ∃ X',DTabsP w' g r p n S X'∧Chg X w w'∧(∀ y,X' y→X y∨w.heap.size≤y)∧∀ y,X' y→¬ InB A y
theorem DTabsW.congr {w:World} {g:Nat} {r:TRule} {p n pb q:Nat} {gs:Nat→Nat} {Xs:Nat→Nat→Prop} {X:Nat→Prop} {S S':Nat→TSt} (h:DTabsW w g r p n S X pb q gs Xs) (e:∀ i,i<p→S i=S' i):DTabsW w g r p n S' X pb q gs Xs :=
 ⟨h.blk,h.ps,fun i hi=>e i hi ▸ h.tab i hi,h.off,h.dis,h.all,h.pbl,h.np,h.p1,h.p16⟩
structure DRound (w:World) (X:Nat→Prop) (g:Nat) (r:TRule) (p n pb q:Nat) (gs:Nat→Nat) (S S':Nat→TSt) (LL:Nat→List Slt) (j:Nat) (wx:World) (A:Option Addr) (a:Nat) (X1:Nat→Prop):Prop where
 own:OwnE wx w.heap.size A a (catF LL j)
 len:(catF LL j).length≤j * 4096
 tab:∃ Xs,DTabsW wx g r p n (selS S S' j) X1 pb q gs Xs
 chg:Chg X w wx
 new:∀ y,X1 y→X y∨w.heap.size≤y
 off:∀ y,X1 y→¬ InB A y
section
variable {w w' w4 w5 wx:World} {g p n pb q j a a':Nat} {r:TRule} {S S':Nat→TSt} {X X1 X2 F:Nat→Prop} {gs:Nat→Nat} {LL:Nat→List Slt} {A A':Option Addr}
theorem DRound.next (h:DRound w X g r p n pb q gs S S' LL j wx A a X1) {Xs2:Nat→Nat→Prop} (k1:DTabsW w4 g r p n (updS (selS S S' j) j (S' j)) X2 pb q gs Xs2) (k2:Chg X1 wx w4) (k3:∀ y,X2 y→X1 y∨wx.heap.size≤y) (hl:(LL j).length≤4096)
  (hO:OwnE w5 w.heap.size A' a' (catF LL j ++ LL j)) (hP:Pushed w4 w5 A A'):DRound w X g r p n pb q gs S S' LL (j+1) w5 A' a' X2:=by
 have hAl:∀ b,InB A b→w.heap.size≤b∧b<wx.heap.size:=fun b hb=>h.own.block hb
 have hz4:=k2.size
 have hzc:=h.chg.size
 have hX2d:∀ y,X2 y→¬ InB A y:=fun y hy e=>by
  rcases k3 y hy with h1 | h1
  · exact h.off y h1 e
  ·
   have:=(hAl y e).2
   omega
 refine ⟨hO,?_,⟨Xs2,?_⟩,(h.chg.trans k2 fun y hy e=>?_).trans hP.chg fun y hy e=>?_,fun y hy=>?_,fun y hy e=>?_⟩
 ·
  have e:catF LL (j+1)=catF LL j ++ LL j:=rfl
  have:=h.len
  rw [e,List.length_append,Nat.succ_mul]
  omega
 ·
  have e:=GX S S' j
  rw [← e]
  exact k1.chg hP.chg hX2d
 ·
  rcases h.new y e with h1 | h1
  · exact h1
  · omega
 ·
  have:=(hAl y e).1
  omega
 ·
  rcases k3 y hy with h1 | h1
  · exact h.new y h1
  · exact .inr (by omega)
 ·
  rcases hP.new y e with h1 | h1
  · exact hX2d y hy h1
  ·
   have:=k1.lt hy
   omega
set_option maxRecDepth 100000 in
set_option maxHeartbeats 8000000 in
theorem KO (h:DTabsP w g r p n S X) (hTI:∀ i,i<p→TI n (S i)) (bk:Int) :
  Calls Tryz.prog 25 #[.pointer (some ⟨g,0,none⟩),.int .i64 bk] w fun e w'=>∃ (A:Option Addr) (a:Nat),e=.returned (.slice A (catF (fun i=>Aq (S i).E (dropL n bk (S i))) p).length a)∧OwnE w' w.heap.size A a (catF (fun i=>Aq (S i).E (dropL n bk (S i))) p)∧Mr w w' A g r p n (fun i=>AX n bk (S i)) X:=by
 obtain ⟨pb,q,gs,Xs,h⟩:=h
 have hp16:=h.p16
 have hn:=GR (h.tab 0 (by have:=h.p1;omega))
 have R0:DRound w X g r p n pb q gs S (fun i=>AX n bk (S i)) (fun i=>Aq (S i).E (dropL n bk (S i))) 0 w none 0 X:=⟨OwnA.nil _ _,by simp [catF],⟨Xs,by rw [F8];exact h⟩,Chg.refl _ _,fun y hy=>.inl hy,fun y _ e=>by obtain ⟨ad,e,-⟩:=e;cases e⟩
 replace hTI:=Lib.hid hTI
 clear h
 go_enter Tryz.func25,Tryz.ntmps25
 go_wp2_with fail
 go_loopg [5,6] p (fun gk sv iv wx=>∃ (j:Nat) (A:Option Addr) (a:Nat) (X1:Nat→Prop),j+gk=p∧iv=.int .i64 (j:Nat)∧sv=.slice A (catF (fun i=>Aq (S i).E (dropL n bk (S i))) j).length a∧DRound w X g r p n pb q gs S (fun i=>AX n bk (S i)) (fun i=>Aq (S i).E (dropL n bk (S i))) j wx A a X1)
 case atStart=>exact ⟨0,none,0,X,by omega,rfl,rfl,R0⟩
 case round =>
  obtain ⟨j,A,a,X1,hj,rfl,rfl,hR⟩:=hrel
  clear R0
  obtain ⟨Xs1,h1⟩:=hR.tab
  have c11:=h1.read.c11
  by_cases hjp:j<p
  ·
   have hji:(j:Int)<(p:Int):=by omega
   have cj:=h1.read.ps j hjp
   have h2:=h1.tab j hjp
   rw [Hx] at h2
   have DR:=Lib.hid (NS h2 (hTI.out j hjp) bk)
   have hl2:(Aq (S j).E (dropL n bk (S j))).length≤4096:=Nat.le_trans (Ed _ _ _) hn
   have hl3:j * 4096≤16 * 4096:=Nat.mul_le_mul_right _ (by omega)
   have hl1:=hR.len
   have hwj:wrap64 ((j:Int)+1)=(j:Int)+1:=by unfold wrap64;omega
   have hO:=hR.own
   have hzc:=hR.chg.size
   have hln:(catF (fun i=>Aq (S i).E (dropL n bk (S i))) (j+1)).length=(catF (fun i=>Aq (S i).E (dropL n bk (S i))) j).length+(Aq (S j).E (dropL n bk (S j))).length:=by rw [catF,List.length_append]
   have FIN:=Lib.hid fun (w4 w5:World) (A':Option Addr) (a':Nat) (hT:DTo wr w4 (gs j) n r.sl r.cfg (dOf n (AX n bk (S j))) (Xs1 j))=>show OwnE w4 w.heap.size A a (catF (fun i=>Aq (S i).E (dropL n bk (S i))) j)∧w.heap.size≤w4.heap.size∧(OwnE w5 w.heap.size A' a' (catF (fun i=>Aq (S i).E (dropL n bk (S i))) j ++ Aq (S j).E (dropL n bk (S j)))→Pushed w4 w5 A A'→∃ X2,DRound w X g r p n pb q gs S (fun i=>AX n bk (S i)) (fun i=>Aq (S i).E (dropL n bk (S i))) (j+1) w5 A' a' X2) from by
    obtain ⟨Xs2,X2,k1,k2,k3⟩:=h1.part hjp hT
    exact ⟨OwnA.chg hO k2 fun b hb e=>hR.off _ e hb,by have:=k2.size;omega,fun hO' hP=>⟨X2,hR.next k1 k2 k3 hl2 hO' hP⟩⟩
   generalize hL0:catF (fun i=>Aq (S i).E (dropL n bk (S i))) j=L0 at FIN hl1 hln ⊢
   generalize hL1:Aq (S j).E (dropL n bk (S j))=L1 at FIN hl2 hln ⊢
   have DR2:Hid (Calls Tryz.prog 94 #[.pointer (some ⟨gs j,0,none⟩),.int .i64 bk] wr fun e w'=>∃ (A:Option Addr) (q:Nat),e=.returned (.slice A L1.length q)∧OwnE w' wr.heap.size A q L1∧DTo wr w' (gs j) n r.sl r.cfg (dOf n (AX n bk (S j))) (Xs1 j)):=Lib.hid (by rw [← hL1];exact DR.out)
   replace hln:=Lib.hid hln
   clear h1 h2 hR hO DR hL0 hL1
   go_wp2_with (first
    | (go_at_call 94;(with_reducible refine DR2.out.mono ?_);rintro e w4 ⟨A2,q2,rfl,hO2,hT2⟩)
    | (at_builtin;(refine Aw rfl (.tmp 16) (.tmp 25) rfl w.heap.size A a L0 L0.length rfl rfl (FIN.out w4 w4 none 0 hT2).1 A2 q2 L1 L1.length rfl rfl hO2.reads (by omega) (FIN.out w4 w4 none 0 hT2).2.1 ?_;intro A9 a9 w9 hO9 hP9)))
   obtain ⟨X2,hR2⟩:=(FIN.out w4 w9 A9 a9 hT2).2.2 hO9 hP9
   go_roundg (gk - 1)
   case measure=>omega
   case rel=>exact ⟨j+1,A9,a9,X2,by omega,by go_num,by rw [hln.out],hR2⟩
  ·
   obtain rfl:j=p:=by omega
   have hji:¬ (j:Int)<(j:Int):=by omega
   clear h1
   go_wp2_with fail
   go_ret
   obtain ⟨Xs2,h2⟩:=hR.tab
   exact ⟨A,a,rfl,hR.own,X1,⟨_,_,_,_,h2.congr fun i hi=>if_pos hi⟩,hR.chg,hR.new,hR.off⟩
end
end Go.Proofs.YteklkljndchjiaaGreat
