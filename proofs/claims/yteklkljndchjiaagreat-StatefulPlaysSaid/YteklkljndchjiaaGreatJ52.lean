/- stateful: rules, states, and what stays true of a keeper, in plain words. stateful: a keeper in memory, told by its blocks. stateful: a keeper's rule, and a new keeper. stateful: a new keeper. stateful: the law's of and chosen; keepers that nobody made. stateful: a keeper's Live, gone, Drop, Go. -/
import Derived.Test.YteklkljndchjiaaGreatJ51
import Derived.Test.YteklkljndchjiaaGreatJ48
import Derived.Test.YteklkljndchjiaaGreatJ9
import Derived.Test.YteklkljndchjiaaGreatJ50
import Derived.Test.YteklkljndchjiaaGreatJ46
import Derived.Test.YteklkljndchjiaaGreatJ15
import Derived.Test.YteklkljndchjiaaGreatJ43
import Derived.Test.YteklkljndchjiaaGreatJ47
import Derived.Test.YteklkljndchjiaaGreatJ36
import Derived.Test.YteklkljndchjiaaGreatJ42
import Derived.Deep.CutRange
namespace Go.Proofs.YteklkljndchjiaaGreat
open Go Go.RowKit Go.Deep Go.Maps Go.ChangeMaps
structure KRule where
 nw:Bool
 ns:Int
 ng:Int
 ww:Bool
 ws:Int
 wg:Int
 ka:Int
 kb:Int
 np:Int
 a:Int
 b:Int
 c:Int
 d:Int
 G:Int
abbrev KRule.cells (r:KRule):List Value:=[.bool r.nw,.int .i64 r.ns,.int .i64 r.ng,.bool r.ww,.int .i64 r.ws,.int .i64 r.wg,.int .u64 r.ka,.int .u64 r.kb,.int .i64 r.np,.int .i64 r.a,.int .i64 r.b,.int .i64 r.c,.int .i64 r.d,.int .i64 r.G]
abbrev KRule.val (r:KRule):Value:=.agg r.cells.toArray
def KRule.r1 (r:KRule):TRule:=⟨r.nw,r.ns,r.ng,r.ka,r.kb,r.np,r.a,r.b,r.c,r.d,r.G⟩
def KRule.r2 (r:KRule):TRule:=⟨r.ww,r.ws,r.wg,r.ka,r.kb,r.np,r.a,r.b,r.c,r.d,r.G⟩
def KRule.rb (r:KRule):Bool→TRule
 | true=>r.r1
 | false=>r.r2
def KRule.p (r:KRule):Nat:=r.np.toNat
def KRule.n (r:KRule) (b:Bool):Nat:=2 ^ (r.rb b).sl.toNat
def Bg (r:KRule):Bool:=!r.nw && AF r.r1 && (r.ww && AF r.r2)
theorem Bf {r:KRule} (h:Bg r=true) (b:Bool):AF (r.rb b)=true:=by
 unfold Bg at h
 simp only [Bool.and_eq_true] at h
 cases b
 · exact h.2.2
 · exact h.1.2
theorem KRule.np_b (r:KRule) (b:Bool):(r.rb b).np=r.np:=by cases b <;> rfl
theorem KRule.G_b (r:KRule) (b:Bool):(r.rb b).G=r.G:=by cases b <;> rfl
theorem C4 {r:KRule} (h:Bg r=true):r.np=(r.p:Int)∧1≤r.p∧r.p≤16:=by
 have h1:=Bf h true
 unfold AF at h1
 simp only [Bool.and_eq_true,decide_eq_true_eq] at h1
 have h2:1≤r.np∧r.np≤16:=h1.1.1.2
 unfold KRule.p
 omega
theorem Mz {r:KRule} (h:Bg r=true) (b:Bool) (t:Tup):pIx (r.rb b) t<r.p:=by
 obtain ⟨h1,h2,h3⟩:=C4 h
 exact (Eu (r.rb b) t (p:=r.p) (by rw [r.np_b];exact h1) h2 h3).2
structure LK (r:TRule) (p n:Nat) (S:Nat→TSt):Prop where
 ti:∀ i,i<p→TI n (S i)
 pt:∀ i,i<p→∀ k:Nat,k<n→((S i).E k).used=true→pIx r ((S i).E k).t=i
 now:∀ i,i<p→(S i).now=(S 0).now
 wf:WfE p n S
section
variable {r:TRule} {p n:Nat} {S S':Nat→TSt} {t:Tup}
theorem LK.new (r:TRule) (p n:Nat):LK r p n (fun _=>sT0 n) :=
 ⟨fun _ _=>TI.new n,fun i hi k hk hu=>(by cases hu),fun _ _=>rfl,WfE.new⟩
theorem LK.all (h:LK r p n S) (hti:∀ i,i<p→TI n (S' i)) (hk:∀ i,i<p→KeepE n (S i) (S' i)) (hn:∀ i,i<p→(S' i).now=(S' 0).now):LK r p n S' :=
 ⟨hti,fun i hi k hkn hu=>by
  obtain ⟨a1,a2,-⟩:=hk i hi k hkn hu
  rw [a2]
  exact h.pt i hi k hkn a1,hn,h.wf.all hk⟩
theorem LK.upd (h:LK r p n S) {i:Nat} {s':TSt} (hti:TI n s') (hk:KeepE n (S i) s') (hn:s'.now=(S i).now):LK r p n (updS S i s') where
 ti:=Pa h.ti hti
 pt:=fun j hj k hkn hu=>by
  by_cases e:j=i
  ·
   subst e
   rw [Bm] at hu ⊢
   obtain ⟨a1,a2,-⟩:=hk k hkn hu
   rw [a2]
   exact h.pt j hj k hkn a1
  ·
   rw [Cc _ _ e] at hu ⊢
   exact h.pt j hj k hkn hu
 now:=fun j hj=>by
  have e1:∀ j,j<p→(updS S i s' j).now=(S j).now:=fun j _=>by
   by_cases e:j=i
   ·
    subst e
    rw [Bm,hn]
   · rw [Cc _ _ e]
  rw [e1 j hj,e1 0 (by omega)]
  exact h.now j hj
 wf:=h.wf.upd hk
theorem Ex (s:TSt) (k:Int):(findSC r n s t k).now=s.now:=(F9 s t k).2.2.2
theorem Hl (s:TSt) (k fl:Int):(Bn r n s t k fl).now=s.now:=by
 unfold Bn
 split
 ·
  rw [O0]
  exact Ex s k
 · exact Ex s k
theorem JW (s:TSt) (bk fl:Int):(openS r.cfg n s t bk fl).now=s.now:=by
 cases ho:Bh t bk fl
 · rw [Iw ho]
 ·
  cases hL:s.L with
  | nil=>rw [FE hL]
  | cons i l=>rw [GJ ho hL]
theorem LK.find (h:LK r p n S) (hp:pIx r t<p) (k:Int):LK r p n (updS S (pIx r t) (findSC r n (S (pIx r t)) t k)) :=
 h.upd (h.ti _ hp).findSC (FL k) (Ex _ k)
theorem LK.touch (h:LK r p n S) (hp:pIx r t<p) (k fl:Int):LK r p n (updS S (pIx r t) (Bn r n (S (pIx r t)) t k fl)) :=
 h.upd (NY (h.ti _ hp)) (Jf k fl) (Hl _ k fl)
theorem LK.go (h:LK r p n S) {nw:Int} {SS:Nat→List Int} (hS:∀ i,i<p→GoS r.G (S i).now nw (S i).M (SS i)):LK r p n (fun i=>goTab n (S i) nw (SS i)) :=
 h.all (fun i hi=>((h.ti i hi).go (hS i hi)).1) (fun i hi=>RA (h.ti i hi) (hS i hi)) (fun i hi=>by
  rw [((h.ti i hi).go (hS i hi)).2.2.2.2.1,((h.ti 0 (by omega)).go (hS 0 (by omega))).2.2.2.2.1,h.now i hi])
theorem LK.drop (h:LK r p n S) (bk:Int):LK r p n (fun i=>AX n bk (S i)) :=
 h.all (fun i hi=>((h.ti i hi).drop _).1) (fun i hi=>NZ (h.ti i hi) bk) (fun i hi=>by
  have e:∀ i,i<p→(AX n bk (S i)).now=(S i).now:=fun i hi=>((h.ti i hi).drop _).2.2.2.1
  rw [e i hi,e 0 (by omega)]
  exact h.now i hi)
theorem LK.open (h:LK r p n S) (hr:AF r=true) (hn:n=2 ^ r.sl.toNat) (hp:pIx r t<p) (ht:tupWf t) (bk fl:Int):LK r p n (updS S (pIx r t) (openS r.cfg n (S (pIx r t)) t bk fl)):=by
 by_cases h0:openE (S (pIx r t)) t bk fl=0
 ·
  obtain ⟨k,c,-,-,-,-,hc,-,hE,ht2,-,-,-,-⟩:=DA hr hn (h.ti _ hp) t bk fl h0
  refine ⟨Pa h.ti ((h.ti _ hp).open t bk fl),fun j hj k hkn hu=>?_,fun j hj=>?_,h.wf.open hr hn hp (h.ti _ hp) ht bk fl⟩
  ·
   by_cases e:j=pIx r t
   ·
    rw [e,Bm,hE] at hu ⊢
    by_cases e2:k=c
    · rw [e2,Ad,ht2]
    ·
     rw [AP _ _ e2] at hu ⊢
     exact h.pt _ hp k hkn hu
   ·
    rw [Cc _ _ e] at hu ⊢
    exact h.pt j hj k hkn hu
  ·
   have e1:∀ j,j<p→(updS S (pIx r t) (openS r.cfg n (S (pIx r t)) t bk fl) j).now=(S j).now:=fun j _=>by
    by_cases e:j=pIx r t
    · rw [e,Bm,JW]
    · rw [Cc _ _ e]
   rw [e1 j hj,e1 0 (by omega)]
   exact h.now j hj
 ·
  rw [KM h0,Dn]
  exact h
end
structure KSt where
 S:Bool→Nat→TSt
 M:LM
 now:Int
def updB (S:Bool→Nat→TSt) (b:Bool) (T:Nat→TSt):Bool→Nat→TSt:=fun c=>if c=b then T else S c
theorem Ee (S:Bool→Nat→TSt) (b:Bool) (T:Nat→TSt):updB S b T b=T:=if_pos rfl
theorem HH (S:Bool→Nat→TSt) {b c:Bool} (T:Nat→TSt) (h:c≠b):updB S b T c=S c:=if_neg h
def KRule.liveB (r:KRule) (s:KSt) (b:Bool):List Slt:=entsL (r.n b) r.p (s.S b)
def KRule.live (r:KRule) (s:KSt):List Slt:=r.liveB s true ++ r.liveB s false
structure KI (r:KRule) (s:KSt):Prop where
 ok:Bg r=true
 lk:∀ b,LK (r.rb b) r.p (r.n b) (s.S b)
 now:∀ b,(s.S b 0).now=s.now
 ld:LdI s.M fun x=>bkN x (r.live s)
def isT (t:Tup):Bool:=t.p==6
def kIx (r:KRule) (t:Tup):Nat:=pIx (r.rb (isT t)) t
def kPt (r:KRule) (s:KSt) (t:Tup):TSt:=s.S (isT t) (kIx r t)
def kUpd (r:KRule) (s:KSt) (t:Tup) (x:TSt):Bool→Nat→TSt:=updB s.S (isT t) (updS (s.S (isT t)) (kIx r t) x)
def D8 (r:KRule) (s:KSt) (t:Tup) (bk fl:Int):Slt:=openV (r.rb (isT t)).cfg (kPt r s t) t bk fl
def BH (r:KRule) (s:KSt) (t:Tup) (bk fl:Int):Int:=openE (kPt r s t) t bk fl
def Ey (r:KRule) (s:KSt) (t:Tup) (bk fl:Int):Int:=Dz (r.rb (isT t)) (kPt r s t) t bk fl
def kOpen (r:KRule) (s:KSt) (t:Tup) (bk fl:Int):KSt:={ s with S:=kUpd r s t (openS (r.rb (isT t)).cfg (r.n (isT t)) (kPt r s t) t bk fl),M:=if BH r s t bk fl=0 then lmAdd s.M bk 1 else s.M }
def H0 (r:KRule) (s:KSt) (t:Tup) (k:Int):Slt:=Cg (r.rb (isT t)) (r.n (isT t)) (kPt r s t) t k
def FO (r:KRule) (s:KSt) (t:Tup) (k:Int):Bool:=Bp (r.rb (isT t)) (r.n (isT t)) (kPt r s t) t k
def kFind (r:KRule) (s:KSt) (t:Tup) (k:Int):KSt:={ s with S:=kUpd r s t (findSC (r.rb (isT t)) (r.n (isT t)) (kPt r s t) t k) }
def AR (r:KRule) (s:KSt) (t:Tup) (k fl:Int):Slt:=CL (r.rb (isT t)) (r.n (isT t)) (kPt r s t) t k fl
def Bv (r:KRule) (s:KSt) (t:Tup) (k:Int):Bool:=Cv (r.rb (isT t)) (r.n (isT t)) (kPt r s t) t k
def E2 (r:KRule) (s:KSt) (t:Tup) (k fl:Int):KSt:={ s with S:=kUpd r s t (Bn (r.rb (isT t)) (r.n (isT t)) (kPt r s t) t k fl),M:=if (Bv r s t k && (AR r s t k fl).st==4)=true then lmAdd s.M (AR r s t k fl).bk (-1) else s.M }
def KGoS (r:KRule) (s:KSt) (nw:Int) (SS:Bool→Nat→List Int):Prop:=∀ b i,i<r.p→GoS r.G (s.S b i).now nw (s.S b i).M (SS b i)
def kGoB (r:KRule) (s:KSt) (SS:Bool→Nat→List Int) (b:Bool):List Slt:=catF (fun i=>Au (s.S b i) (SS b i)) r.p
def kGoL (r:KRule) (s:KSt) (SS:Bool→Nat→List Int):List Slt:=kGoB r s SS true ++ kGoB r s SS false
def kGo (r:KRule) (s:KSt) (nw:Int) (SS:Bool→Nat→List Int):KSt:=⟨fun b i=>goTab (r.n b) (s.S b i) nw (SS b i),AE s.M (kGoL r s SS),goN s.now nw⟩
def CF (r:KRule) (s:KSt) (bk:Int) (b:Bool):List Slt:=catF (fun i=>Aq (s.S b i).E (dropL (r.n b) bk (s.S b i))) r.p
def Bi (r:KRule) (s:KSt) (bk:Int):List Slt:=CF r s bk true ++ CF r s bk false
def kDrop (r:KRule) (s:KSt) (bk:Int):KSt:={ s with S:=fun b i=>AX (r.n b) bk (s.S b i),M:=AE s.M (Bi r s bk) }
def kNew (r:KRule):KSt:=⟨fun b _=>sT0 (r.n b),[],0⟩
section
variable {r:KRule} {s:KSt} {t:Tup}
theorem KI.pix (h:KI r s) (t:Tup):kIx r t<r.p:=Mz h.ok _ t
theorem KI.p1 (h:KI r s):1≤r.p∧r.p≤16:=(C4 h.ok).2
theorem KI.n4 (h:KI r s) (b:Bool):r.n b≤4096:=by
 have h1:=Bf h.ok b
 unfold AF layOk at h1
 simp only [Bool.and_eq_true,decide_eq_true_eq] at h1
 have h2:(r.rb b).sl.toNat≤12:=by omega
 exact Nat.pow_le_pow_right (by omega) h2
theorem KI.lenB (h:KI r s) (b:Bool):(r.liveB s b).length≤65536:=by
 have h1:=GY (fun i hi=>(h.lk b).ti i hi) r.p (Nat.le_refl _)
 have h2:=h.n4 b
 have h3:=h.p1
 have h4:r.p * r.n b≤16 * 4096:=Nat.mul_le_mul h3.2 h2
 unfold KRule.liveB
 omega
theorem KI.len (h:KI r s):(r.live s).length≤131072:=by
 have h1:=h.lenB true
 have h2:=h.lenB false
 unfold KRule.live
 rw [List.length_append]
 omega
theorem KI.cnt (h:KI r s) (x:Int):bkN x (r.live s)<1000000:=by
 have:=bkN_le x (r.live s)
 have:=h.len
 omega
theorem KI.total (h:KI r s):lmSum s.M=(r.live s).length∧s.M.length≤(r.live s).length:=h.ld.total
theorem KI.mlen (h:KI r s):s.M.length≤131072:=by
 have:=h.total.2
 have:=h.len
 omega
theorem IY (S:Bool→Nat→TSt) (M:LM) (now:Int) (b:Bool) (i:Nat) (hi:i<r.p) (x:TSt) (y:Int):bkN y (r.live ⟨updB S b (updS (S b) i x),M,now⟩)+bkN y (liveL (r.n b) (S b i))=bkN y (r.live ⟨S,M,now⟩)+bkN y (liveL (r.n b) x):=by
 have h:=RH (n:=r.n b) (S:=S b) (s':=x) hi y
 unfold KRule.live KRule.liveB
 rw [AJ,AJ]
 dsimp only
 cases b
 ·
  rw [Ee,HH _ _ (by decide)]
  omega
 ·
  rw [Ee,HH _ _ (by decide)]
  omega
theorem KI.upd_lk (h:KI r s) {b:Bool} {T:Nat→TSt} (hT:LK (r.rb b) r.p (r.n b) T):∀ c,LK (r.rb c) r.p (r.n c) (updB s.S b T c):=fun c=>by
 by_cases e:c=b
 ·
  subst e
  rw [Ee]
  exact hT
 ·
  rw [HH _ _ e]
  exact h.lk c
theorem KI.upd_now (h:KI r s) {b:Bool} {i:Nat} {x:TSt} (hx:x.now=(s.S b i).now) (hi:i<r.p):∀ c,(updB s.S b (updS (s.S b) i x) c 0).now=s.now:=fun c=>by
 by_cases e:c=b
 ·
  subst e
  rw [Ee]
  by_cases e2:0=i
  ·
   subst e2
   rw [Bm,hx]
   exact h.now c
  ·
   rw [Cc _ _ e2]
   exact h.now c
 ·
  rw [HH _ _ e]
  exact h.now c
theorem wf_bk {bk:Int} (h:0≤bk∧bk≤65535):(Lit.int .i64 bk).wf=true:=BD (by omega) (by omega)
theorem IZ {x:TSt} {bk fl:Int} (h:openE x t bk fl=0):0≤bk∧bk≤65535:=by
 cases ho:Bh t bk fl
 ·
  unfold openE at h
  rw [ho] at h
  cases h
 ·
  unfold Bh at ho
  simp only [Bool.and_eq_true,decide_eq_true_eq] at ho
  exact ho.1.2
theorem KI.open (h:KI r s) (ht:tupWf t) (bk fl:Int):KI r (kOpen r s t bk fl) where
 ok:=h.ok
 lk:=h.upd_lk ((h.lk (isT t)).open (Bf h.ok _) rfl (h.pix t) ht bk fl)
 now:=h.upd_now (JW _ bk fl) (h.pix t)
 ld:=by
  have hl:=fun y=>IY (r:=r) s.S s.M s.now (isT t) (kIx r t) (h.pix t) (openS (r.rb (isT t)).cfg (r.n (isT t)) (kPt r s t) t bk fl) y
  have ho:=fun y=>RJ (r:=r.rb (isT t)) (n:=r.n (isT t)) (s:=kPt r s t) (Bf h.ok _) rfl ((h.lk (isT t)).ti _ (h.pix t)) t bk fl y
  have e:∀ y,bkN y (r.live (kOpen r s t bk fl))=bkN y (r.live s)+((BH r s t bk fl==0) && (bk==y)).toNat:=fun y=>by
   have h1:=hl y
   have h2:=ho y
   have h3:bkN y (r.live (kOpen r s t bk fl))=bkN y (r.live ⟨updB s.S (isT t) (updS (s.S (isT t)) (kIx r t) (openS (r.rb (isT t)).cfg (r.n (isT t)) (kPt r s t) t bk fl)),s.M,s.now⟩):=rfl
   have h4:bkN y (liveL (r.n (isT t)) (kPt r s t))=bkN y (liveL (r.n (isT t)) (s.S (isT t) (kIx r t))):=rfl
   unfold BH
   rw [h3]
   have h5:bkN y (r.live s)=bkN y (r.live ⟨s.S,s.M,s.now⟩):=rfl
   omega
  show LdI (if BH r s t bk fl=0 then lmAdd s.M bk 1 else s.M) _
  by_cases h0:BH r s t bk fl=0
  ·
   rw [if_pos h0]
   refine (h.ld.add (b:=bk) (wf_bk (IZ h0)) (h.cnt bk)).congr fun y=>?_
   rw [e y,h0]
   rfl
  ·
   rw [if_neg h0]
   refine h.ld.congr fun y=>?_
   rw [e y,beq_eq_false_iff_ne.2 h0]
   rfl
theorem KI.find (h:KI r s) (k:Int):KI r (kFind r s t k) where
 ok:=h.ok
 lk:=h.upd_lk ((h.lk (isT t)).find (h.pix t) k)
 now:=h.upd_now (Ex _ k) (h.pix t)
 ld:=h.ld.congr fun y=>by
  have h1:=IY (r:=r) s.S s.M s.now (isT t) (kIx r t) (h.pix t) (findSC (r.rb (isT t)) (r.n (isT t)) (kPt r s t) t k) y
  have h2:bkN y (liveL (r.n (isT t)) (findSC (r.rb (isT t)) (r.n (isT t)) (kPt r s t) t k))=bkN y (liveL (r.n (isT t)) (s.S (isT t) (kIx r t))):=bkN_E (fun j _=>by rw [(F9 _ t k).1];rfl) y
  have h3:bkN y (r.live (kFind r s t k))=bkN y (r.live ⟨updB s.S (isT t) (updS (s.S (isT t)) (kIx r t) (findSC (r.rb (isT t)) (r.n (isT t)) (kPt r s t) t k)),s.M,s.now⟩):=rfl
  have h5:bkN y (r.live s)=bkN y (r.live ⟨s.S,s.M,s.now⟩):=rfl
  omega
theorem J0 (h:KI r s) (k fl y:Int):bkN y (r.live s)=bkN y (r.live (E2 r s t k fl))+(Bv r s t k && (AR r s t k fl).st==4 && (AR r s t k fl).bk==y).toNat:=by
 have h1:=IY (r:=r) s.S s.M s.now (isT t) (kIx r t) (h.pix t) (Bn (r.rb (isT t)) (r.n (isT t)) (kPt r s t) t k fl) y
 have h2:=Qu (r:=r.rb (isT t)) (n:=r.n (isT t)) (s:=kPt r s t) t k fl y
 have h3:bkN y (r.live (E2 r s t k fl))=bkN y (r.live ⟨updB s.S (isT t) (updS (s.S (isT t)) (kIx r t) (Bn (r.rb (isT t)) (r.n (isT t)) (kPt r s t) t k fl)),s.M,s.now⟩):=rfl
 have h4:bkN y (liveL (r.n (isT t)) (kPt r s t))=bkN y (liveL (r.n (isT t)) (s.S (isT t) (kIx r t))):=rfl
 have h5:bkN y (r.live s)=bkN y (r.live ⟨s.S,s.M,s.now⟩):=rfl
 unfold Bv AR
 omega
theorem KI.touch_bk (h:KI r s) {k fl:Int} (h0:(Bv r s t k && (AR r s t k fl).st==4)=true):(Lit.int .i64 (AR r s t k fl).bk).wf=true:=by
 refine h.ld.key ?_
 rw [J0 h k fl,h0]
 simp
theorem KI.touch (h:KI r s) (k fl:Int):KI r (E2 r s t k fl) where
 ok:=h.ok
 lk:=h.upd_lk ((h.lk (isT t)).touch (h.pix t) k fl)
 now:=h.upd_now (Hl _ k fl) (h.pix t)
 ld:=by
  have e:=J0 h (t:=t) k fl
  show LdI (if (Bv r s t k && (AR r s t k fl).st==4)=true then lmAdd s.M (AR r s t k fl).bk (-1) else s.M) _
  by_cases h0:(Bv r s t k && (AR r s t k fl).st==4)=true
  ·
   rw [if_pos h0]
   refine h.ld.sub (fun y=>?_) ?_
   ·
    rw [e y,h0]
    rfl
   ·
    have:=e (AR r s t k fl).bk
    have:=h.cnt (AR r s t k fl).bk
    omega
  ·
   rw [if_neg h0]
   refine h.ld.congr fun y=>?_
   rw [e y,show (Bv r s t k && (AR r s t k fl).st==4)=false from Bool.eq_false_iff.2 h0]
   simp
theorem KW (h:KI r s) {nw:Int} {SS:Bool→Nat→List Int} (hS:KGoS r s nw SS) (y:Int):bkN y (r.live s)=bkN y (r.live (kGo r s nw SS))+bkN y (kGoL r s SS):=by
 have key:∀ b,bkN y (r.liveB (kGo r s nw SS) b)+bkN y (kGoB r s SS b)=bkN y (r.liveB s b):=fun b =>
  IV fun i hi=>bkN_go ((h.lk b).ti i hi) (hS b i hi) y
 have h1:=key true
 have h2:=key false
 unfold KRule.live kGoL
 rw [AJ,AJ,AJ]
 omega
theorem KI.go (h:KI r s) {nw:Int} {SS:Bool→Nat→List Int} (hS:KGoS r s nw SS):KI r (kGo r s nw SS) where
 ok:=h.ok
 lk:=fun b=>(h.lk b).go fun i hi=>by rw [r.G_b];exact hS b i hi
 now:=fun b=>by
  have hp:=h.p1
  show (goTab (r.n b) (s.S b 0) nw (SS b 0)).now=goN s.now nw
  rw [← h.now b]
  exact (((h.lk b).ti 0 (by omega)).go (hS b 0 (by omega))).2.2.2.2.1
 ld:=h.ld.subs _ (KW h hS) h.cnt
theorem H1 (h:KI r s) (bk y:Int):bkN y (r.live s)=bkN y (r.live (kDrop r s bk))+bkN y (Bi r s bk):=by
 have key:∀ b,bkN y (r.liveB (kDrop r s bk) b)+bkN y (CF r s bk b)=bkN y (r.liveB s b):=fun b =>
  IV fun i hi=>RI ((h.lk b).ti i hi) bk y
 have h1:=key true
 have h2:=key false
 unfold KRule.live Bi
 rw [AJ,AJ,AJ]
 omega
theorem KI.drop (h:KI r s) (bk:Int):KI r (kDrop r s bk) where
 ok:=h.ok
 lk:=fun b=>(h.lk b).drop bk
 now:=fun b=>by
  have hp:=h.p1
  rw [show (kDrop r s bk).now=s.now from rfl,← h.now b]
  exact (((h.lk b).ti 0 (by omega)).drop _).2.2.2.1
 ld:=h.ld.subs _ (H1 h bk) h.cnt
theorem KI.new (hr:Bg r=true):KI r (kNew r) where
 ok:=hr
 lk:=fun b=>LK.new _ _ _
 now:=fun _=>rfl
 ld:=LdI.new.congr fun y=>by
  have key:∀ b,r.liveB (kNew r) b=[]:=fun b=>by
   refine List.eq_nil_iff_forall_not_mem.2 fun x hx=>?_
   obtain ⟨i,-,k,-,hu,-⟩:=Qr.1 hx
   cases hu
  unfold KRule.live
  rw [key,key]
  rfl
theorem KI.sub_key {c:Int→Nat} {M:LM} {L:List Slt} (h:LdI M c) (e:∀ y,bkN y L≤c y) {x:Slt} (hx:x ∈ L):(Lit.int .i64 x.bk).wf=true:=by
 refine h.key (b:=x.bk) ?_
 have h1:0<bkN x.bk L:=List.countP_pos_iff.2 ⟨x,hx,by simp⟩
 have:=e x.bk
 omega
end
structure KPtr where
 g:Nat
 gl:Nat
 bl:Nat
 gb:Bool→Nat
abbrev ptr0 (g:Nat):Value:=.pointer (some ⟨g,0,none⟩)
def Cx (g:Nat) (r:TRule) (p n:Nat) (S:Nat→TSt):Ob:=fun w X=>TabsP w g r p n S X
def KX (gl bl:Nat) (M:LM):Ob:=fun w X=>LoadAt w gl bl M∧∀ y,X y ↔ y=gl∨y=bl
def Aj (k:KPtr) (r:KRule) (s:KSt):Ob :=
 ((Ob.blk k.g 150 #[ptr0 (k.gb true),ptr0 (k.gb false),ptr0 k.gl]).star (KX k.gl k.bl s.M)).star
  ((Cx (k.gb true) (r.rb true) r.p (r.n true) (s.S true)).star (Cx (k.gb false) (r.rb false) r.p (r.n false) (s.S false)))
theorem LoadAt.chg {w w1:World} {g b:Nat} {M:LM} {F:Nat→Prop} (h:LoadAt w g b M) (k:Chg F w w1) (h1:¬ F g) (h2:¬ F b):LoadAt w1 g b M:=⟨h.1.chg k h1,h.2.chg k h2⟩
section
variable {w w':World} {X F:Nat→Prop} {k:KPtr} {r:KRule} {s:KSt} {g p n gl bl:Nat} {tr:TRule} {S:Nat→TSt} {M:LM}
theorem tabsOb_ok:(Cx g tr p n S).Ok:=⟨fun h hy=>TabsP.lt h hy,fun h c hd=>TabsP.chg h c hd⟩
theorem H2:(KX gl bl M).Ok:=⟨fun h hy=>by
 rcases (h.2 _).1 hy with rfl | rfl
 · exact h.1.lt.1
 · exact h.1.lt.2,fun h c hd=>⟨h.1.chg c (hd _ ((h.2 _).2 (.inl rfl))) (hd _ ((h.2 _).2 (.inr rfl))),h.2⟩⟩
theorem keepOb_ok:(Aj k r s).Ok:=(Ob.blk_ok.star H2).star (tabsOb_ok.star tabsOb_ok)
theorem Bt (h:Aj k r s w X):Blk w k.g 150 #[ptr0 (k.gb true),ptr0 (k.gb false),ptr0 k.gl]∧X k.g:=by
 obtain ⟨X1,X2,⟨X3,X4,⟨h1,e1⟩,-,-,e3⟩,-,-,e2⟩:=h
 exact ⟨h1,(e2 _).2 (.inl ((e3 _).2 (.inl ((e1 _).2 rfl))))⟩
theorem H3 (b:Bool) (h:Aj k r s w X):∃ X1,TabsP w (k.gb b) (r.rb b) r.p (r.n b) (s.S b) X1∧(∀ y,X1 y→X y)∧(∀ T w',D6 w w' (k.gb b) (r.rb b) r.p (r.n b) T X1→(Aj k r { s with S:=updB s.S b T }).To w w' X) ∧
  ∀ T w' Z,(∀ y,Z y→¬ X y)→(Cx (k.gb b) (r.rb b) r.p (r.n b) T).ToZ w w' X1 Z→(Aj k r { s with S:=updB s.S b T }).ToZ w w' X Z:=by
 cases b
 ·
  obtain ⟨X1,h1,h2,h3,h4⟩:=Ob.part (Ob.has_right (Ob.blk_ok.star H2) (Ob.has_right tabsOb_ok Ob.has_self):(Aj k r s).Has (Cx (k.gb false) (r.rb false) r.p (r.n false) (s.S false)) _) h
  exact ⟨X1,h1,h2,fun T w' t=>h3 (Cx (k.gb false) (r.rb false) r.p (r.n false) T) w' t,fun T w' Z hZ t=>h4 (Cx (k.gb false) (r.rb false) r.p (r.n false) T) w' Z hZ t⟩
 ·
  obtain ⟨X1,h1,h2,h3,h4⟩:=Ob.part (Ob.has_right (Ob.blk_ok.star H2) (Ob.has_left tabsOb_ok Ob.has_self):(Aj k r s).Has (Cx (k.gb true) (r.rb true) r.p (r.n true) (s.S true)) _) h
  exact ⟨X1,h1,h2,fun T w' t=>h3 (Cx (k.gb true) (r.rb true) r.p (r.n true) T) w' t,fun T w' Z hZ t=>h4 (Cx (k.gb true) (r.rb true) r.p (r.n true) T) w' Z hZ t⟩
theorem Ef (b:Bool) (h:Aj k r s w X):∃ X1,TabsP w (k.gb b) (r.rb b) r.p (r.n b) (s.S b) X1∧(∀ y,X1 y→X y)∧∀ T w',D6 w w' (k.gb b) (r.rb b) r.p (r.n b) T X1→(Aj k r { s with S:=updB s.S b T }).To w w' X:=by
 obtain ⟨X1,h1,h2,h3,-⟩:=H3 b h
 exact ⟨X1,h1,h2,h3⟩
theorem Fa (h:Aj k r s w X):LoadAt w k.gl k.bl s.M∧X k.gl∧X k.bl∧∀ M' w',LoadAt w' k.gl k.bl M'→Chg (fun y=>y=k.gl∨y=k.bl) w w'→(Aj k r { s with M:=M' }).To w w' X:=by
 obtain ⟨X1,⟨h1,e1⟩,h2,h3,-⟩:=Ob.part (Ob.has_left (tabsOb_ok.star tabsOb_ok) (Ob.has_right Ob.blk_ok Ob.has_self):(Aj k r s).Has (KX k.gl k.bl s.M) _) h
 exact ⟨h1,h2 _ ((e1 _).2 (.inl rfl)),h2 _ ((e1 _).2 (.inr rfl)),fun M' w' k1 k2=>h3 (KX k.gl k.bl M') w' (Ob.To.of ⟨k1,e1⟩ (k2.mono fun y _ hy=>(e1 y).2 hy))⟩
theorem CG (h:Aj k r s w X):Calls Tryz.prog 107 #[ptr0 k.g] w fun e w'=>e=.returned (.bool true)∧w=w':=by
 have c2:=(Bt h).1.cell 2
 go_enter Tryz.func107,Tryz.ntmps107
 go_wp2_with fail
 go_ret
 exact ⟨rfl,rfl⟩
theorem HI (h:Aj k r s w X) (q:Int):Calls Tryz.prog 103 #[ptr0 k.g,.int .i64 q] w fun e w'=>e=.returned (ptr0 (k.gb (q==6)))∧Below w.heap.size w w':=by
 have GV:=Lib.hid (CG h)
 have c0:=(Bt h).1.cell 0
 have c1:=(Bt h).1.cell 1
 clear h
 cases hq:q==6
 ·
  go_enter Tryz.func103,Tryz.ntmps103
  go_wp2_with (go_at_call 107;with_reducible refine GV.out.mono ?_;rintro e w1 ⟨rfl,rfl⟩)
  go_ret
  exact ⟨rfl,Below.refl _ _⟩
 ·
  go_enter Tryz.func103,Tryz.ntmps103
  go_wp2_with (go_at_call 107;with_reducible refine GV.out.mono ?_;rintro e w1 ⟨rfl,rfl⟩)
  go_ret
  exact ⟨rfl,Below.refl _ _⟩
theorem J1 (h:Aj k r s w X):Calls Tryz.prog 57 #[ptr0 k.g] w fun e w'=>e=.returned (ptr0 k.gl)∧w=w':=by
 have GV:=Lib.hid (CG h)
 have c2:=(Bt h).1.cell 2
 clear h
 go_enter Tryz.func57,Tryz.ntmps57
 go_wp2_with (go_at_call 107;with_reducible refine GV.out.mono ?_;rintro e w1 ⟨rfl,rfl⟩)
 go_ret
 exact ⟨rfl,rfl⟩
theorem MA (h:Aj k r s w X) {id:Int} (n:Int) (hk:(Lit.int .i64 id).wf=true) (hp:lmPos s.M) (hl:s.M.length≤1000000) :
  Calls Tryz.prog 104 #[ptr0 k.gl,.int .i64 id,.int .i64 n] w fun e w'=>e=.returned (.tuple #[])∧(Aj k r { s with M:=lmAdd s.M id n }).To w w' X:=by
 obtain ⟨h1,-,-,h2⟩:=Fa h
 refine (QT k.gl k.bl s.M id n w h1 hk hp hl).mono ?_
 rintro e w' ⟨rfl,k1,k2⟩
 exact ⟨rfl,h2 _ _ k1 (k2.mono fun y _ hy=>.inr hy)⟩
theorem RK (h:Aj k r s w X) {id:Int} (hk:(Lit.int .i64 id).wf=true):Calls Tryz.prog 61 #[ptr0 k.gl,.int .i64 id] w fun e w'=>e=.returned (.int .i64 (lmGet s.M id))∧w=w' :=
 QS k.gl k.bl s.M id w (Fa h).1 hk
theorem MB (h:Aj k r s w X) (x:Slt) (hx:0≤x.gen∧x.gen<18446744073709551616):Calls Tryz.prog 44 #[ptr0 k.g,x.val] w fun e w'=>e=.returned (.int .u64 (ckOf (r.rb (isT x.t)) x))∧Below w.heap.size w w':=by
 obtain ⟨b,hb⟩:∃ b,isT x.t=b:=⟨_,rfl⟩
 have hb2:(x.t.p==6)=b:=hb
 have OF:=Lib.hid fun (W:World) (hbW:Below w.heap.size w W)=>show Calls Tryz.prog 103 #[ptr0 k.g,.int .i64 x.t.p] W fun e w'=>e=.returned (ptr0 (k.gb b))∧Below W.heap.size W w' from by
  have:=HI (keepOb_ok.call h hbW) x.t.p
  rwa [hb2] at this
 rw [hb]
 have CK:=Lib.hid fun (W:World) (hbW:Below w.heap.size w W)=>by
  obtain ⟨X1,h1,-,-⟩:=Ef b (keepOb_ok.call h hbW)
  exact KL h1 x hx
 clear h hb hb2
 have hS:EntAt w.heap.size x (w.alloc (.cells x.ent.toArray 52)):=EntAt.of (Blk.new w 52 x.entA)
 have hb0:Below w.heap.size w (w.alloc (.cells x.ent.toArray 52)):=Aa (Below.refl _ _) _
 unfold ckOf
 generalize makeI (r.rb b).wd (r.rb b).sl (r.rb b).gn (r.rb b).ka (r.rb b).kb x.t x.sl x.gen=ck at *
 go_enter Tryz.func44,Tryz.ntmps44
 go_upto_region 1 with fail
 change Code.wp _ _ _ _ (w.alloc (.cells x.ent.toArray 52))
 generalize w.alloc (.cells x.ent.toArray 52)=w1 at *
 obtain ⟨rt,hrt⟩:∃ rt,w.heap.size=rt:=⟨_,rfl⟩
 rw [hrt] at hS
 try rw [hrt]
 have hS1:EntAt rt x w1.drew:=hS
 refine wp_region_held_drew (S:=EntAt rt x) (by kernel_rfl) hS1 (fun hHeld=>?_)
 have hd:Below w.heap.size w w1.drew:=hb0.drew
 generalize w1.drew=wd at *
 clear hb0
 refine tq 0 ?_;try go_frame
 refine tq 1 ?_;try go_frame
 refine tq 2 ?_;try go_frame
 refine tq 3 ?_;try go_frame
 refine tq 5 ?_;try go_frame
 refine oneH 4 fun K hK=>?_
 go_simp
 (go_at_call 103;(with_reducible refine (OF.out _ hd).mono ?_))
 rintro e w2 ⟨rfl,hb2⟩
 refine hK.out _ _ (hHeld.call hb2) (fun hHeld=>?_)
 clear hK K
 try go_frame
 refine oneH 6 fun K hK=>?_
 go_simp
 (go_at_call 32;(with_reducible refine (CK.out _ (A8 hb2 hd)).mono ?_))
 rintro e w3 ⟨rfl,hb3⟩
 refine hK.out _ _ (hHeld.call hb3) (fun hHeld=>?_)
 clear hK K
 try go_frame
 refine tq 7 ?_;try go_frame
 refine wpAnyH_done (by kernel_rfl) ?_ _
 go_wp2_with fail
 go_ret
 exact ⟨rfl,A8 hb3 (A8 hb2 hd)⟩
end
theorem Hm (x0 x1 x2 x3 x4 x5 x6 x7 x8 x9 x10 y0 y1 y2 y3 y4 y5 y6 y7 y8 y9 y10:Value) (W:World):(Instr.index 151 (.agg #[x0,x1,x2,x3,x4,x5,x6,x7,x8,x9,x10,y0,y1,y2,y3,y4,y5,y6,y7,y8,y9,y10]) (.int .i64 0)).run Tryz.prog W=.ok (.agg #[x0,x1,x2,x3,x4,x5,x6,x7,x8,x9,x10]) W:=by kernel_rfl
theorem Hn (x0 x1 x2 x3 x4 x5 x6 x7 x8 x9 x10 y0 y1 y2 y3 y4 y5 y6 y7 y8 y9 y10:Value) (W:World):(Instr.index 151 (.agg #[x0,x1,x2,x3,x4,x5,x6,x7,x8,x9,x10,y0,y1,y2,y3,y4,y5,y6,y7,y8,y9,y10]) (.int .i64 1)).run Tryz.prog W=.ok (.agg #[y0,y1,y2,y3,y4,y5,y6,y7,y8,y9,y10]) W:=by kernel_rfl
abbrev KRule.both (r:KRule):Array Value:=#[.bool r.nw,.int .i64 r.ns,.int .i64 r.ng,.int .u64 r.ka,.int .u64 r.kb,.int .i64 r.np,.int .i64 r.a,.int .i64 r.b,.int .i64 r.c,.int .i64 r.d,.int .i64 r.G,.bool r.ww,.int .i64 r.ws,.int .i64 r.wg,.int .u64 r.ka,.int .u64 r.kb,.int .i64 r.np,.int .i64 r.a,.int .i64 r.b,.int .i64 r.c,.int .i64 r.d,.int .i64 r.G]
abbrev KRule.l1 (r:KRule):List Value:=[.bool r.nw,.int .i64 r.ns,.int .i64 r.ng,.int .u64 r.ka,.int .u64 r.kb,.int .i64 r.np,.int .i64 r.a,.int .i64 r.b,.int .i64 r.c,.int .i64 r.d,.int .i64 r.G]
abbrev KRule.l2 (r:KRule):List Value:=[.bool r.ww,.int .i64 r.ws,.int .i64 r.wg,.int .u64 r.ka,.int .u64 r.kb,.int .i64 r.np,.int .i64 r.a,.int .i64 r.b,.int .i64 r.c,.int .i64 r.d,.int .i64 r.G]
theorem Pc (r:KRule) (w:World):Calls Tryz.prog 102 #[r.val] w fun e w'=>e=.returned (.agg r.both)∧Below w.heap.size w w':=QV r.nw r.ns r.ng r.ww r.ws r.wg r.ka r.kb r.np r.a r.b r.c r.d r.G w
theorem Qw (r:KRule) (w:World):Calls Tryz.prog 13 #[.agg r.l1.toArray] w fun e w'=>e=.returned (.bool (AF r.r1))∧Below w.heap.size w w':=FJ r.r1 w
theorem Qx (r:KRule) (w:World):Calls Tryz.prog 13 #[.agg r.l2.toArray] w fun e w'=>e=.returned (.bool (AF r.r2))∧Below w.heap.size w w':=FJ r.r2 w
set_option maxRecDepth 100000 in
set_option maxHeartbeats 8000000 in
theorem Ez (r:KRule) (w:World):Calls Tryz.prog 40 #[r.val] w fun e w'=>e=.returned (.bool (Bg r))∧Below w.heap.size w w':=by
 have BO:=Lib.hid fun W=>Pc r W
 have R1:=Lib.hid fun W=>Qw r W
 have R2:=Lib.hid fun W=>Qx r W
 have i0:=fun W=>Hm (.bool r.nw) (.int .i64 r.ns) (.int .i64 r.ng) (.int .u64 r.ka) (.int .u64 r.kb) (.int .i64 r.np) (.int .i64 r.a) (.int .i64 r.b) (.int .i64 r.c) (.int .i64 r.d) (.int .i64 r.G) (.bool r.ww) (.int .i64 r.ws) (.int .i64 r.wg) (.int .u64 r.ka) (.int .u64 r.kb) (.int .i64 r.np) (.int .i64 r.a) (.int .i64 r.b) (.int .i64 r.c) (.int .i64 r.d) (.int .i64 r.G) W
 have i1:=fun W=>Hn (.bool r.nw) (.int .i64 r.ns) (.int .i64 r.ng) (.int .u64 r.ka) (.int .u64 r.kb) (.int .i64 r.np) (.int .i64 r.a) (.int .i64 r.b) (.int .i64 r.c) (.int .i64 r.d) (.int .i64 r.G) (.bool r.ww) (.int .i64 r.ws) (.int .i64 r.wg) (.int .u64 r.ka) (.int .u64 r.kb) (.int .i64 r.np) (.int .i64 r.a) (.int .i64 r.b) (.int .i64 r.c) (.int .i64 r.d) (.int .i64 r.G) W
 have B1:=Blk.new w 75 r.cells.toArray
 have hb0:Below w.heap.size w (w.alloc (.cells r.cells.toArray 75)):=Aa (Below.refl _ _) _
 have hfin:Bg r=(!r.nw && AF r.r1 && (r.ww && AF r.r2)):=rfl
 rw [hfin]
 generalize AF r.r1=o1 at *
 generalize AF r.r2=o2 at *
 clear hfin
 go_enter Tryz.func40,Tryz.ntmps40
 go_upto_region 1 with fail
 change Code.wp _ _ _ _ (w.alloc (.cells r.cells.toArray 75))
 generalize w.alloc (.cells r.cells.toArray 75)=w1 at *
 obtain ⟨rk,hrk⟩:∃ r,w.heap.size=r:=⟨_,rfl⟩
 rw [hrk] at B1 hb0
 try rw [hrk]
 go_wp2_with (first
  | (with_reducible refine Ai rfl 75 (.tmp 1) rfl rk 0 rfl B1 r.cells rfl _ Tryz.underlying75 rfl (by kernel_rfl) ?_)
  | (go_at_call 102;(with_reducible refine (BO.out _).mono ?_);rintro e w2 ⟨rfl,hb2⟩))
 have hb2':=Ah hb2 hb0 (by have:=B1.lt;omega)
 have hz2:rk<w2.heap.size:=by have:=(B1.call hb2).lt;exact this
 clear hb2 B1 BO
 refine wp_loop_rounds 3 ?_
 rw [rounds_succ]
 go_upto_region 4 with fail
 change Code.wp _ _ _ _ (w2.alloc (.cells r.l1.toArray 38))
 have D1:=Blk.new w2 38 r.l1.toArray
 have hb3:=Ah (Aa (Below.refl w2.heap.size w2) (.cells r.l1.toArray 38)) hb2' (by omega)
 generalize w2.alloc (.cells r.l1.toArray 38)=w3 at *
 have c0:w3.cell? ⟨w2.heap.size,0,none⟩=some (.bool r.nw):=D1.cell 0
 have c1:w3.cell? ⟨w2.heap.size,1,none⟩=some (.int .i64 r.ns):=D1.cell 1
 have c2:w3.cell? ⟨w2.heap.size,2,none⟩=some (.int .i64 r.ng):=D1.cell 2
 have c3:w3.cell? ⟨w2.heap.size,3,none⟩=some (.int .u64 r.ka):=D1.cell 3
 have c4:w3.cell? ⟨w2.heap.size,4,none⟩=some (.int .u64 r.kb):=D1.cell 4
 have c5:w3.cell? ⟨w2.heap.size,5,none⟩=some (.int .i64 r.np):=D1.cell 5
 have c6:w3.cell? ⟨w2.heap.size,6,none⟩=some (.int .i64 r.a):=D1.cell 6
 have c7:w3.cell? ⟨w2.heap.size,7,none⟩=some (.int .i64 r.b):=D1.cell 7
 have c8:w3.cell? ⟨w2.heap.size,8,none⟩=some (.int .i64 r.c):=D1.cell 8
 have c9:w3.cell? ⟨w2.heap.size,9,none⟩=some (.int .i64 r.d):=D1.cell 9
 have c10:w3.cell? ⟨w2.heap.size,10,none⟩=some (.int .i64 r.G):=D1.cell 10
 have hz3:=D1.lt
 clear D1
 cases hnw:r.nw
 ·
  rw [hnw] at c0
  cases o1
  ·
   go_wp2_with (go_at_call 13;(have R1':=R1.out w3);simp only [KRule.l1,hnw] at R1';(with_reducible refine R1'.mono ?_);rintro e w4 ⟨rfl,hb4⟩)
   have hb4':=Ah hb4 hb3 (by omega)
   have hz4:=hb4.size
   go_ret
   exact ⟨by simp [*],by rw [hrk];exact hb4'⟩
  ·
   go_wp2_with (go_at_call 13;(have R1':=R1.out w3);simp only [KRule.l1,hnw] at R1';(with_reducible refine R1'.mono ?_);rintro e w4 ⟨rfl,hb4⟩)
   have hb4':=Ah hb4 hb3 (by omega)
   have hz4:=hb4.size
   clear c0 c1 c2 c3 c4 c5 c6 c7 c8 c9 c10
   rw [rounds_succ]
   go_upto_region 4 with fail
   change Code.wp _ _ _ _ (w4.alloc (.cells r.l2.toArray 38))
   have D1:=Blk.new w4 38 r.l2.toArray
   have hb5:=Ah (Aa (Below.refl w4.heap.size w4) (.cells r.l2.toArray 38)) hb4' (by omega)
   generalize w4.alloc (.cells r.l2.toArray 38)=w5 at *
   have c0:w5.cell? ⟨w4.heap.size,0,none⟩=some (.bool r.ww):=D1.cell 0
   have c1:w5.cell? ⟨w4.heap.size,1,none⟩=some (.int .i64 r.ws):=D1.cell 1
   have c2:w5.cell? ⟨w4.heap.size,2,none⟩=some (.int .i64 r.wg):=D1.cell 2
   have c3:w5.cell? ⟨w4.heap.size,3,none⟩=some (.int .u64 r.ka):=D1.cell 3
   have c4:w5.cell? ⟨w4.heap.size,4,none⟩=some (.int .u64 r.kb):=D1.cell 4
   have c5:w5.cell? ⟨w4.heap.size,5,none⟩=some (.int .i64 r.np):=D1.cell 5
   have c6:w5.cell? ⟨w4.heap.size,6,none⟩=some (.int .i64 r.a):=D1.cell 6
   have c7:w5.cell? ⟨w4.heap.size,7,none⟩=some (.int .i64 r.b):=D1.cell 7
   have c8:w5.cell? ⟨w4.heap.size,8,none⟩=some (.int .i64 r.c):=D1.cell 8
   have c9:w5.cell? ⟨w4.heap.size,9,none⟩=some (.int .i64 r.d):=D1.cell 9
   have c10:w5.cell? ⟨w4.heap.size,10,none⟩=some (.int .i64 r.G):=D1.cell 10
   have hz5:=D1.lt
   clear D1
   cases hww:r.ww
   ·
    rw [hww] at c0
    go_wp2_with fail
    go_ret
    exact ⟨by simp [*],by rw [hrk];exact hb5⟩
   ·
    rw [hww] at c0
    cases o2
    ·
     go_wp2_with (go_at_call 13;(have R2':=R2.out w5);simp only [KRule.l2,hww] at R2';(with_reducible refine R2'.mono ?_);rintro e w6 ⟨rfl,hb6⟩)
     have hb6':=Ah hb6 hb5 (by omega)
     go_ret
     exact ⟨by simp [*],by rw [hrk];exact hb6'⟩
    ·
     go_wp2_with (go_at_call 13;(have R2':=R2.out w5);simp only [KRule.l2,hww] at R2';(with_reducible refine R2'.mono ?_);rintro e w6 ⟨rfl,hb6⟩)
     have hb6':=Ah hb6 hb5 (by omega)
     rw [rounds_succ]
     go_wp2_with fail
     go_ret
     exact ⟨by simp [*],by rw [hrk];exact hb6'⟩
 ·
  rw [hnw] at c0
  go_wp2_with fail
  go_ret
  exact ⟨by simp [*],by rw [hrk];exact hb3⟩
set_option maxRecDepth 100000 in
theorem MC (r:KRule) (hr:Bg r=false) (w:World):Calls Tryz.prog 37 #[r.val] w fun e w'=>e=.returned (.tuple #[.pointer none,.int .i64 1])∧Below w.heap.size w w':=by
 have RT:=Lib.hid fun W=>Ez r W
 rw [hr] at RT
 have B1:=Blk.new w 75 r.cells.toArray
 have hb0:Below w.heap.size w (w.alloc (.cells r.cells.toArray 75)):=Aa (Below.refl _ _) _
 go_enter Tryz.func37,Tryz.ntmps37
 go_upto_region 1 with fail
 change Code.wp _ _ _ _ (w.alloc (.cells r.cells.toArray 75))
 generalize w.alloc (.cells r.cells.toArray 75)=w1 at *
 obtain ⟨rk,hrk⟩:∃ r,w.heap.size=r:=⟨_,rfl⟩
 rw [hrk] at B1 hb0
 try rw [hrk]
 go_wp2_with (first
  | (with_reducible refine Ai rfl 75 (.tmp 1) rfl rk 0 rfl B1 r.cells rfl _ Tryz.underlying75 rfl (by kernel_rfl) ?_)
  | (go_at_call 40;(with_reducible refine (RT.out _).mono ?_);rintro e w2 ⟨rfl,hb2⟩))
 go_ret2
 exact ⟨rfl,by rw [hrk];exact Ah hb2 hb0 (by have:=B1.lt;omega)⟩
theorem SG (r:KRule) (hr:AF r.r1=true) (w:World):Calls Tryz.prog 10 #[.agg r.l1.toArray] w fun e w'=>∃ g X,e=.returned (.tuple #[ptr0 g,.int .i64 0])∧Cx g r.r1 r.p (r.n true) (fun _=>sT0 (r.n true)) w' X∧Below w.heap.size w w'∧∀ y,X y→w.heap.size≤y:=Ml r.r1 hr w
theorem SH (r:KRule) (hr:AF r.r2=true) (w:World):Calls Tryz.prog 10 #[.agg r.l2.toArray] w fun e w'=>∃ g X,e=.returned (.tuple #[ptr0 g,.int .i64 0])∧Cx g r.r2 r.p (r.n false) (fun _=>sT0 (r.n false)) w' X∧Below w.heap.size w w'∧∀ y,X y→w.heap.size≤y:=Ml r.r2 hr w
theorem Qy {r:KRule} {w:World} {g gl bl g1 g2 n3:Nat} {X1 X2:Nat→Prop} (hB:Blk w g 150 #[ptr0 g1,ptr0 g2,ptr0 gl]) (hL:LoadAt w gl bl []) (h1:Cx g1 r.r1 r.p (r.n true) (fun _=>sT0 (r.n true)) w X1) (h2:Cx g2 r.r2 r.p (r.n false) (fun _=>sT0 (r.n false)) w X2)
  (a1:gl<g) (a2:bl<g) (b1:∀ y,X1 y→g<y∧y<n3) (b2:∀ y,X2 y→n3≤y) (hn:g<n3):Aj ⟨g,gl,bl,fun b=>match b with | true=>g1 | false=>g2⟩ r (kNew r) w (fun y=>(y=g∨y=gl∨y=bl)∨X1 y∨X2 y) :=
 ⟨fun y=>y=g∨y=gl∨y=bl,fun y=>X1 y∨X2 y,⟨fun y=>y=g,fun y=>y=gl∨y=bl,⟨hB,fun _=>Iff.rfl⟩,⟨hL,fun _=>Iff.rfl⟩,fun y e h=>by rcases h with h | h <;> omega,fun _=>Iff.rfl⟩,⟨X1,X2,h1,h2,fun y e h=>by have:=b1 y e;have:=b2 y h;omega,fun _=>Iff.rfl⟩,fun y e h=>by
  rcases h with h | h
  ·
   have:=b1 y h
   omega
  ·
   have:=b2 y h
   omega,fun _=>Iff.rfl⟩
set_option maxRecDepth 100000 in
set_option maxHeartbeats 8000000 in
theorem MD (r:KRule) (hr:Bg r=true) (w:World):Calls Tryz.prog 37 #[r.val] w fun e w'=>∃ k X,e=.returned (.tuple #[ptr0 k.g,.int .i64 0])∧Aj k r (kNew r) w' X∧Below w.heap.size w w'∧∀ y,X y→w.heap.size≤y:=by
 have RT:=Lib.hid fun W=>Ez r W
 rw [hr] at RT
 have BO:=Lib.hid fun W=>Pc r W
 have N1:=Lib.hid fun W=>SG r (Bf hr true) W
 have N2:=Lib.hid fun W=>SH r (Bf hr false) W
 have i0:=fun W=>Hm (.bool r.nw) (.int .i64 r.ns) (.int .i64 r.ng) (.int .u64 r.ka) (.int .u64 r.kb) (.int .i64 r.np) (.int .i64 r.a) (.int .i64 r.b) (.int .i64 r.c) (.int .i64 r.d) (.int .i64 r.G) (.bool r.ww) (.int .i64 r.ws) (.int .i64 r.wg) (.int .u64 r.ka) (.int .u64 r.kb) (.int .i64 r.np) (.int .i64 r.a) (.int .i64 r.b) (.int .i64 r.c) (.int .i64 r.d) (.int .i64 r.G) W
 have i1:=fun W=>Hn (.bool r.nw) (.int .i64 r.ns) (.int .i64 r.ng) (.int .u64 r.ka) (.int .u64 r.kb) (.int .i64 r.np) (.int .i64 r.a) (.int .i64 r.b) (.int .i64 r.c) (.int .i64 r.d) (.int .i64 r.G) (.bool r.ww) (.int .i64 r.ws) (.int .i64 r.wg) (.int .u64 r.ka) (.int .u64 r.kb) (.int .i64 r.np) (.int .i64 r.a) (.int .i64 r.b) (.int .i64 r.c) (.int .i64 r.d) (.int .i64 r.G) W
 have B1:=Blk.new w 75 r.cells.toArray
 have hb0:Below w.heap.size w (w.alloc (.cells r.cells.toArray 75)):=Aa (Below.refl _ _) _
 clear hr
 go_enter Tryz.func37,Tryz.ntmps37
 go_upto_region 1 with fail
 change Code.wp _ _ _ _ (w.alloc (.cells r.cells.toArray 75))
 generalize w.alloc (.cells r.cells.toArray 75)=w1 at *
 obtain ⟨rk,hrk⟩:∃ r,w.heap.size=r:=⟨_,rfl⟩
 rw [hrk] at B1 hb0
 try rw [hrk]
 go_upto_region 4 with (first
  | (with_reducible refine Ai rfl 75 (.tmp 1) rfl rk 0 rfl B1 r.cells rfl _ Tryz.underlying75 rfl (by kernel_rfl) ?_)
  | (go_at_call 40;(with_reducible refine (RT.out _).mono ?_);rintro e w2 ⟨rfl,hb2⟩)
  | (go_at_call 101;(with_reducible refine (QR _).mono ?_);rintro e w3 ⟨gl,bl,rfl,hL,hgl,hbl,hb3⟩))
 have lt1:=B1.lt
 have B3:=(B1.call hb2).call hb3
 have hb3':=Ah hb3 (Ah hb2 hb0 (by omega)) (by have:=hb2.size;omega)
 have hl3:=hL.lt
 have hg0:rk≤w2.heap.size:=by have:=hb2.size;omega
 change Code.wp _ _ _ _ (w3.alloc (.cells #[.pointer none,.pointer none,ptr0 gl] 150))
 have BK:=Blk.new w3 150 #[.pointer none,.pointer none,ptr0 gl]
 have hb4:Below w3.heap.size w3 (w3.alloc (.cells #[.pointer none,.pointer none,ptr0 gl] 150)):=Aa (Below.refl _ _) _
 have B4:=B3.call hb4
 have hL4:=hL.call hb4
 generalize w3.alloc (.cells #[.pointer none,.pointer none,ptr0 gl] 150)=w4 at *
 have hz3:=hb3'.size
 have hb4':=Ah hb4 hb3' (by omega)
 obtain ⟨g,hg⟩:∃ g,w3.heap.size=g:=⟨_,rfl⟩
 rw [hg] at BK hl3 hz3
 try rw [hg]
 have lk4:=BK.lt
 clear B1 B3 hb0 hb2 hb3 hb3' hb4 hL RT
 go_wp2_with (first
  | (with_reducible refine Ai rfl 75 (.tmp 1) rfl rk 0 rfl B4 r.cells rfl _ Tryz.underlying75 rfl (by kernel_rfl) ?_)
  | (go_at_call 102;(with_reducible refine (BO.out _).mono ?_);rintro e w5 ⟨rfl,hb5⟩))
 replace BK:=BK.call hb5
 replace hL4:=hL4.call hb5
 have hb':=Ah hb5 hb4' (by omega)
 have hz5:=hb5.size
 clear hb5 hb4' B4 BO
 refine wp_loop_rounds 3 ?_
 rw [rounds_succ]
 go_upto_region 7 with fail
 change Code.wp _ _ _ _ (w5.alloc (.cells r.l1.toArray 38))
 have D0:=Blk.new w5 38 r.l1.toArray
 have kw6:Below w5.heap.size w5 (w5.alloc (.cells r.l1.toArray 38)):=Aa (Below.refl _ _) _
 generalize w5.alloc (.cells r.l1.toArray 38)=w6 at *
 go_upto_region 10 with (first
  | (with_reducible refine Ai rfl 38 (.tmp 6) rfl w5.heap.size 0 rfl D0 r.l1 rfl _ Tryz.underlying38 rfl (by kernel_rfl) ?_)
  | (go_at_call 10;(with_reducible refine (N1.out _).mono ?_);rintro e w7 ⟨g1,X1,rfl,hT1,kw7,hX1⟩))
 have jw7:=A8 kw7 kw6
 replace BK:=BK.call jw7
 replace hL4:=hL4.call jw7
 replace hb':=Ah jw7 hb' (by omega)
 have zw7:=kw7.size
 have zw6:=kw6.size
 have f0:=BK.frozen 0
 have c0:w7.cell? ⟨g,0,none⟩=some (.pointer none):=BK.cell 0
 go_wp2_with fail
 have hk:Chg (·=g) w7 (w7.setCell ⟨g,0,none⟩ (ptr0 g1)):=Chg.setCell (F:=(·=g)) (p:=⟨g,0,none⟩) (Chg.refl _ _) (fun _=>rfl) _
 replace BK:=BK.set_ 0 (ptr0 g1)
 replace hL4:=hL4.chg hk (fun e=>by omega) (fun e=>by omega)
 replace hT1:=tabsOb_ok.chg hT1 hk (fun y hy e=>by have:=hX1 y hy;have e2:y=g:=e;omega)
 replace hb':=Ar hb' hk (fun y hy e=>by have e2:y=g:=e;omega) (by omega)
 have hsw8:w7.heap.size≤(w7.setCell ⟨g,0,none⟩ (ptr0 g1)).heap.size:=by simp [World.setCell]
 generalize w7.setCell ⟨g,0,none⟩ (ptr0 g1)=w8 at *
 clear f0 c0 jw7 kw7 kw6 D0
 have hlt1:=fun y (hy:X1 y)=>tabsOb_ok.lt hT1 hy
 rw [rounds_succ]
 go_upto_region 7 with fail
 change Code.wp _ _ _ _ (w8.alloc (.cells r.l2.toArray 38))
 have D1:=Blk.new w8 38 r.l2.toArray
 have kw9:Below w8.heap.size w8 (w8.alloc (.cells r.l2.toArray 38)):=Aa (Below.refl _ _) _
 generalize w8.alloc (.cells r.l2.toArray 38)=w9 at *
 go_upto_region 10 with (first
  | (with_reducible refine Ai rfl 38 (.tmp 6) rfl w8.heap.size 0 rfl D1 r.l2 rfl _ Tryz.underlying38 rfl (by kernel_rfl) ?_)
  | (go_at_call 10;(with_reducible refine (N2.out _).mono ?_);rintro e w10 ⟨g2,X2,rfl,hT2,kw10,hX2⟩))
 have jw10:=A8 kw10 kw9
 replace BK:=BK.call jw10
 replace hL4:=hL4.call jw10
 replace hb':=Ah jw10 hb' (by omega)
 have zw10:=kw10.size
 have zw9:=kw9.size
 have f0:=BK.frozen 1
 have c0:w10.cell? ⟨g,1,none⟩=some (.pointer none):=BK.cell 1
 go_wp2_with fail
 have hk:Chg (·=g) w10 (w10.setCell ⟨g,1,none⟩ (ptr0 g2)):=Chg.setCell (F:=(·=g)) (p:=⟨g,1,none⟩) (Chg.refl _ _) (fun _=>rfl) _
 replace BK:=BK.set_ 1 (ptr0 g2)
 replace hL4:=hL4.chg hk (fun e=>by omega) (fun e=>by omega)
 replace hT1:=tabsOb_ok.chg (tabsOb_ok.call hT1 jw10) hk (fun y hy e=>by have:=hX1 y hy;have e2:y=g:=e;omega)
 replace hT2:=tabsOb_ok.chg hT2 hk (fun y hy e=>by have:=hX2 y hy;have e2:y=g:=e;omega)
 replace hb':=Ar hb' hk (fun y hy e=>by have e2:y=g:=e;omega) (by omega)
 have hsw11:w10.heap.size≤(w10.setCell ⟨g,1,none⟩ (ptr0 g2)).heap.size:=by simp [World.setCell]
 generalize w10.setCell ⟨g,1,none⟩ (ptr0 g2)=w11 at *
 clear f0 c0 jw10 kw10 kw9 D1
 rw [rounds_succ]
 go_wp2_with fail
 go_ret2
 refine ⟨⟨g,gl,bl,fun b=>match b with | true=>g1 | false=>g2⟩,_,rfl,Qy (n3:=w8.heap.size) BK hL4 hT1 hT2 (by omega) (by omega) (fun y hy=>⟨by have:=hX1 y hy;omega,hlt1 y hy⟩) (fun y hy=>by have:=hX2 y hy;omega) (by omega),by rw [hrk];exact hb',fun y hy=>?_⟩
 rw [hrk]
 rcases hy with hy | hy | hy
 · omega
 ·
  have:=hX1 y hy
  omega
 ·
  have:=hX2 y hy
  omega
set_option maxRecDepth 100000 in
set_option maxHeartbeats 8000000 in
theorem KY (s:T20) (hs:t20Wf s) (A:Option Addr) (c:Nat) (cs:List Int) (hcs:∀ x ∈ cs,0≤x∧x<18446744073709551616) (hl:cs.length≤1000000) (w:World) (hr:Reads w w.heap.size 1 A cs.length (cs.map (.int .u64))) :
  ∃ k:Nat,k<18446744073709551616∧Calls Tryz.prog 41 #[s.val,.slice A cs.length c] w fun e w'=>e=.returned (.int .u64 (k:Int))∧Below w.heap.size w w':=by
 have S0:=Blk.new w 49 s.cells.toArray
 have s4:(w.alloc (.cells s.cells.toArray 49)).cell? ⟨w.heap.size,12,none⟩=some (.int .u64 s.ck):=S0.cell 12
 have s5:(w.alloc (.cells s.cells.toArray 49)).cell? ⟨w.heap.size,13,none⟩=some (.int .i64 s.pk):=S0.cell 13
 have hb0:Below w.heap.size w (w.alloc (.cells s.cells.toArray 49)):=Aa (Below.refl _ _) _
 obtain ⟨kd,⟨tp,v,hi,lo,v',hi',lo',sp,dp⟩,sn,bk,ck,pk⟩:=s
 have hck:=hs.1
 clear S0 hs
 dsimp only at *
 obtain ⟨m,rfl⟩:∃ m:Nat,ck=m:=⟨ck.toNat,by omega⟩
 by_cases h1:pk<0
 ·
  have x1:decide (pk<0)=true:=by simpa using h1
  refine ⟨m,by omega,?_⟩
  go_enter Tryz.func41,Tryz.ntmps41
  go_wp2_with fail
  go_ret
  exact ⟨rfl,hb0⟩
 ·
  have x1:decide (pk<0)=false:=by simpa using h1
  by_cases h2:cs.length=0
  ·
   have x2:((cs.length:Int)==0)=true:=by rw [h2];rfl
   refine ⟨m,by omega,?_⟩
   go_enter Tryz.func41,Tryz.ntmps41
   go_wp2_with fail
   go_ret
   exact ⟨rfl,hb0⟩
  ·
   have x2:((cs.length:Int)==0)=false:=by rw [beq_eq_false_iff_ne];omega
   obtain ⟨j,hj,hjl⟩:∃ j:Nat,pk.tmod (cs.length:Int)=(j:Int)∧j<cs.length:=by
    have e:=Int.tmod_eq_emod_of_nonneg (b:=(cs.length:Int)) (show 0≤pk by omega)
    have e1:=Int.emod_nonneg pk (show (cs.length:Int)≠0 by omega)
    have e2:=Int.emod_lt_of_pos pk (show 0<(cs.length:Int) by omega)
    rw [e]
    clear e
    generalize hz:pk % (cs.length:Int)=z at *
    exact ⟨z.toNat,by omega,by omega⟩
   obtain ⟨ad,rfl,hbl,hc⟩:=(hr.below hb0).intk_at hjl
   have hx:=hcs (cs.getD j 0) (by rw [List.getD_eq_getElem?_getD,List.getElem?_eq_getElem hjl];exact List.getElem_mem hjl)
   obtain ⟨z,hz⟩:∃ z:Nat,cs.getD j 0=z:=⟨(cs.getD j 0).toNat,by omega⟩
   rw [hz] at hc
   have hji:(j:Int)<(cs.length:Int):=by omega
   refine ⟨z,by omega,?_⟩
   clear hr hcs
   go_enter Tryz.func41,Tryz.ntmps41
   go_wp2_with fail
   go_ret
   exact ⟨rfl,hb0⟩
set_option maxRecDepth 100000 in
theorem ME (r:KRule) (w:World):Calls Tryz.prog 38 #[r.val] w fun e w'=>e=.returned r.val∧Below w.heap.size w w':=by
 have B1:=(Blk.new w 70 r.cells.toArray).alloc (.cells #[.bool false,.int .i64 0,.int .i64 0,.bool false,.int .i64 0,.int .i64 0,.int .u64 0,.int .u64 0,.int .i64 0,.int .i64 0,.int .i64 0,.int .i64 0,.int .i64 0,.int .i64 0] 75)
 have B2:=Blk.new (w.alloc (.cells r.cells.toArray 70)) 75 #[.bool false,.int .i64 0,.int .i64 0,.bool false,.int .i64 0,.int .i64 0,.int .u64 0,.int .u64 0,.int .i64 0,.int .i64 0,.int .i64 0,.int .i64 0,.int .i64 0,.int .i64 0]
 have hb0:Below w.heap.size w ((w.alloc (.cells r.cells.toArray 70)).alloc (.cells #[.bool false,.int .i64 0,.int .i64 0,.bool false,.int .i64 0,.int .i64 0,.int .u64 0,.int .u64 0,.int .i64 0,.int .i64 0,.int .i64 0,.int .i64 0,.int .i64 0,.int .i64 0] 75)):=Aa (Aa (Below.refl _ _) _) _
 rw [World.size_alloc] at B2
 go_enter Tryz.func38,Tryz.ntmps38
 go_upto_region 1 with fail
 change Code.wp _ _ _ _ ((w.alloc (.cells r.cells.toArray 70)).alloc (.cells #[.bool false,.int .i64 0,.int .i64 0,.bool false,.int .i64 0,.int .i64 0,.int .u64 0,.int .u64 0,.int .i64 0,.int .i64 0,.int .i64 0,.int .i64 0,.int .i64 0,.int .i64 0] 75))
 generalize (w.alloc (.cells r.cells.toArray 70)).alloc (.cells #[.bool false,.int .i64 0,.int .i64 0,.bool false,.int .i64 0,.int .i64 0,.int .u64 0,.int .u64 0,.int .i64 0,.int .i64 0,.int .i64 0,.int .i64 0,.int .i64 0,.int .i64 0] 75)=w1 at *
 obtain ⟨rk,hrk⟩:∃ r,w.heap.size=r:=⟨_,rfl⟩
 rw [hrk] at B1 B2 hb0
 try rw [hrk]
 have c8:w1.cell? ⟨rk,8,none⟩=some (.int .i64 r.np):=B1.cell 8
 have c13:w1.cell? ⟨rk,13,none⟩=some (.int .i64 r.G):=B1.cell 13
 have hz:=B1.lt
 go_wp2_with (first
  | (with_reducible refine Ai rfl 23 (.tmp 3) rfl rk 0 rfl B1 [.bool r.nw,.int .i64 r.ns,.int .i64 r.ng] rfl _ Tryz.underlying23 rfl (by kernel_rfl) ?_)
  | (with_reducible refine Ai rfl 23 (.tmp 5) rfl rk 3 rfl B1 [.bool r.ww,.int .i64 r.ws,.int .i64 r.wg] rfl _ Tryz.underlying23 rfl (by kernel_rfl) ?_)
  | (with_reducible refine Ai rfl 26 (.tmp 7) rfl rk 6 rfl B1 [.int .u64 r.ka,.int .u64 r.kb] rfl _ Tryz.underlying26 rfl (by kernel_rfl) ?_)
  | (with_reducible refine Ai rfl 28 (.tmp 11) rfl rk 9 rfl B1 [.int .i64 r.a,.int .i64 r.b,.int .i64 r.c,.int .i64 r.d] rfl _ Tryz.underlying28 rfl (by kernel_rfl) ?_)
  | (with_reducible refine Br rfl rfl 75 (.tmp 2) (.tmp 15) rfl (rk+1) 0 rfl B2 [.bool r.nw,.int .i64 r.ns,.int .i64 r.ng,.bool r.ww,.int .i64 r.ws,.int .i64 r.wg,.int .u64 r.ka,.int .u64 r.kb,.int .i64 r.np,.int .i64 r.a,.int .i64 r.b,.int .i64 r.c,.int .i64 r.d,.int .i64 r.G] rfl (Nat.le_of_ble_eq_true (by kernel_rfl)) (by kernel_rfl) rfl ?_;intro w4 hB4 hc4 hz4))
 replace hb0:=Ar hb0 hc4 (fun y hy e=>by have e2:y=rk+1:=e;omega) (by omega)
 refine bodyPost_ret (v:=r.val) (Eo rfl rfl (EF 75 hB4 [.bool r.nw,.int .i64 r.ns,.int .i64 r.ng,.bool r.ww,.int .i64 r.ws,.int .i64 r.wg,.int .u64 r.ka,.int .u64 r.kb,.int .i64 r.np,.int .i64 r.a,.int .i64 r.b,.int .i64 r.c,.int .i64 r.d,.int .i64 r.G] rfl _ Tryz.underlying75 rfl (by kernel_rfl))) rfl ?_
 exact ⟨rfl,by rw [hrk];exact hb0⟩
abbrev keepZ:Array Value:=#[.pointer none,.pointer none,.pointer none]
def KNo (v:Value) (w:World):Prop:=v=.pointer none∨∃ g,v=ptr0 g∧Blk w g 150 keepZ
theorem KNo.call {v:Value} {w w':World} (h:KNo v w) (hb:Below w.heap.size w w'):KNo v w':=by
 rcases h with h | ⟨g,h1,h2⟩
 · exact .inl h
 · exact .inr ⟨g,h1,h2.call hb⟩
section
variable {w:World} {v:Value}
theorem Eg (h:KNo v w):Calls Tryz.prog 107 #[v] w fun e w'=>e=.returned (.bool false)∧w=w':=by
 rcases h with rfl | ⟨g,rfl,h⟩
 ·
  go_enter Tryz.func107,Tryz.ntmps107
  go_wp2_with fail
  go_ret
  exact ⟨rfl,rfl⟩
 ·
  have c2:w.cell? ⟨g,2,none⟩=some (.pointer none):=h.cell 2
  go_enter Tryz.func107,Tryz.ntmps107
  go_wp2_with fail
  go_ret
  exact ⟨rfl,rfl⟩
theorem KZ (h:KNo v w) (q:Int):Calls Tryz.prog 103 #[v,.int .i64 q] w fun e w'=>e=.returned (.pointer none)∧Below w.heap.size w w':=by
 have GV:=Lib.hid (Eg h)
 clear h
 go_enter Tryz.func103,Tryz.ntmps103
 go_wp2_with (go_at_call 107;with_reducible refine GV.out.mono ?_;rintro e w1 ⟨rfl,rfl⟩)
 go_ret
 exact ⟨rfl,Below.refl _ _⟩
theorem RL (h:KNo v w):Calls Tryz.prog 54 #[v] w fun e w'=>e=.returned (.slice none 0 0)∧w=w':=by
 have GV:=Lib.hid (Eg h)
 clear h
 go_enter Tryz.func54,Tryz.ntmps54
 go_wp2_with (go_at_call 107;with_reducible refine GV.out.mono ?_;rintro e w1 ⟨rfl,rfl⟩)
 go_ret
 exact ⟨rfl,rfl⟩
theorem Qz (h:KNo v w):Calls Tryz.prog 57 #[v] w fun e w'=>e=.returned (.pointer none)∧w=w':=by
 have GV:=Lib.hid (Eg h)
 clear h
 go_enter Tryz.func57,Tryz.ntmps57
 go_wp2_with (go_at_call 107;with_reducible refine GV.out.mono ?_;rintro e w1 ⟨rfl,rfl⟩)
 go_ret
 exact ⟨rfl,rfl⟩
theorem RM (h:KNo v w) (bk:Int):Calls Tryz.prog 52 #[v,.int .i64 bk] w fun e w'=>e=.returned (.slice none 0 0)∧w=w':=by
 have GV:=Lib.hid (Eg h)
 clear h
 go_enter Tryz.func52,Tryz.ntmps52
 go_wp2_with (go_at_call 107;with_reducible refine GV.out.mono ?_;rintro e w1 ⟨rfl,rfl⟩)
 go_ret
 exact ⟨rfl,rfl⟩
theorem kno_go (h:KNo v w) (nw:Int):Calls Tryz.prog 50 #[v,.int .i64 nw] w fun e w'=>e=.returned (.tuple #[.slice none 0 0,.int .i64 1])∧w=w':=by
 have GV:=Lib.hid (Eg h)
 clear h
 go_enter Tryz.func50,Tryz.ntmps50
 go_wp2_with (go_at_call 107;with_reducible refine GV.out.mono ?_;rintro e w1 ⟨rfl,rfl⟩)
 go_ret2
 exact ⟨rfl,rfl⟩
theorem Jk (i:Int) (w:World):Calls Tryz.prog 30 #[.pointer none,.int .i64 i] w fun e w'=>e=.returned (.int .i64 0)∧Below w.heap.size w w':=by
 have GV:=Lib.hid (Cw w)
 go_enter Tryz.func30,Tryz.ntmps30
 go_wp2_with (go_at_call 83;with_reducible refine GV.out.mono ?_;rintro e w1 ⟨rfl,rfl⟩)
 go_ret
 exact ⟨rfl,Below.refl _ _⟩
theorem RN (h:KNo v w) (q i:Int):Calls Tryz.prog 62 #[v,.int .i64 q,.int .i64 i] w fun e w'=>e=.returned (.int .i64 0)∧Below w.heap.size w w':=by
 have OF:=Lib.hid (KZ h q)
 clear h
 go_enter Tryz.func62,Tryz.ntmps62
 go_wp2_with (first
  | (go_at_call 103;(with_reducible refine OF.out.mono ?_);rintro e w1 ⟨rfl,hb1⟩)
  | (go_at_call 30;(with_reducible refine (Jk _ _).mono ?_);rintro e w2 ⟨rfl,hb2⟩))
 go_ret
 exact ⟨rfl,A8 hb2 hb1⟩
end
theorem AK {P:Ob} {w w':World} {X:Nat→Prop} (h:P.To w w' X):Chg X w w':=by
 obtain ⟨_,_,h,_⟩:=h
 exact h
theorem Eh {P1:Ob} {w w1 W w3 wX:World} {X:Nat→Prop} {rt q:Nat} (hP:P1.Ok) (hb0:Below w.heap.size w w1) (hlt:∀ y,X y→y<w.heap.size) (hrt:w.heap.size=rt) (hw1:w1.heap.size=w.heap.size+2) (B2:Blk w1 (rt+1) 52 slt0.entA) (hb:Below w1.heap.size w1 W) (hT:P1.To W w3 X) (hF:∃ F:Nat→Prop,Chg F w3 wX∧∀ y,¬ F y) (hq1:w1.heap.size≤q) (hq2:q<W.heap.size∨w3.heap.size≤q) (hB:Blk wX q 52 slt0.entA) (ov:Slt) :
  rt+1<q∧Blk (Ac wX q ov) q 52 ov.entA∧Blk (Ac wX q ov) (rt+1) 52 slt0.entA∧∃ X',P1 (Ac wX q ov) X'∧Chg X w (Ac wX q ov)∧(∀ y,X' y→X y∨w.heap.size≤y)∧¬ X' (rt+1)∧¬ X' q:=by
 obtain ⟨F,hF,hF0⟩:=hF
 obtain ⟨X',k1,k2,k3⟩:=hT
 obtain ⟨e1,e2⟩:=Ab hB ov
 have hz:=hb.size
 have hz3:=k2.size
 have hXq:∀ y,X' y→y≠q:=fun y hy e=>by
  rcases k3 y hy with h | h
  ·
   have:=hlt y h
   omega
  ·
   have:=hP.lt k1 hy
   omega
 have hk:Chg (·=q) w3 (Ac wX q ov):=(hF.mono fun y _ h=>absurd h (hF0 y)).trans e2 fun y _ h=>h
 have hkw:Chg X w w3:=((Chg.of_below hb0).trans (Chg.of_below (F:=X) hb) (fun _ _ h=>h)).trans k2 (fun _ _ h=>h)
 refine ⟨by omega,e1,?_,X',hP.chg k1 hk hXq,hkw.trans hk fun y hy e=>by have e2:y=q:=e;omega,fun y hy=>?_,fun hy=>?_,fun hy=>hXq q hy rfl⟩
 ·
  refine (((B2.call hb).chg k2 fun e=>?_).chg hk fun e=>?_)
  ·
   have:=hlt _ e
   omega
  ·
   have e2:rt+1=q:=e
   omega
 ·
  rcases k3 y hy with h | h
  · exact .inl h
  · exact .inr (by omega)
 ·
  rcases k3 _ hy with h | h
  ·
   have:=hlt _ h
   omega
  · omega
theorem Jl {M:LM} {id:Int} (h0:lmGet M id≠0):(lmAdd M id (-1)).length≤M.length:=by
 have hm:∃ x ∈ M,x.1=id:=by
  unfold lmGet at h0
  cases hf:M.find? (fun x=>x.1==id) with
  | none=>rw [hf] at h0;exact absurd rfl h0
  | some x=>exact ⟨x,List.mem_of_find?_eq_some hf,by simpa using List.find?_some hf⟩
 have hlt:(lmDel M id).length<M.length:=by
  obtain ⟨x,hx,e⟩:=hm
  unfold lmDel
  refine List.length_filter_lt_length_iff_exists.2 ⟨x,hx,by simp [e]⟩
 unfold lmAdd
 rw [if_neg (by omega)]
 split
 · omega
 ·
  unfold lmPut
  rw [G3]
  omega
theorem Fb {c:Int→Nat}:∀ (L:List Slt) {M:LM},LdI M c→(∀ y,bkN y L≤c y)→(∀ b,c b<1000000)→∀ j (hj:j<L.length),(Lit.int .i64 (L[j]).bk).wf=true∧lmPos (AE M (L.take j))∧AA (AE M (L.take j))∧(AE M (L.take j)).length≤M.length:=by
 intro L M h he hc j hj
 have key:∀ j,j≤L.length→LdI (AE M (L.take j)) (fun x=>c x - bkN x (L.take j))∧(AE M (L.take j)).length≤M.length:=fun j=>by
  induction j with
  | zero=>intro _;exact ⟨h.congr fun b=>by simp [bkN],Nat.le_refl _⟩
  | succ j ih =>
   intro hj
   obtain ⟨i1,i2⟩:=ih (by omega)
   have hj':j<L.length:=by omega
   have e1:L.take (j+1)=L.take j ++ [L[j]]:=by rw [List.take_add_one,List.getElem?_eq_getElem hj'];rfl
   have e2:∀ x,bkN x (L.take (j+1))=bkN x (L.take j)+(L[j].bk==x).toNat:=fun x=>by rw [e1,AJ,Hz]
   have e3:∀ x,bkN x (L.take (j+1))≤c x:=fun x=>by
    have h1:=he x
    have h2:bkN x L=bkN x (L.take (j+1))+bkN x (L.drop (j+1)):=by rw [← AJ,List.take_append_drop]
    omega
   rw [EN hj']
   refine ⟨i1.sub (fun x=>?_) ?_,Nat.le_trans (Jl ?_) i2⟩
   ·
    have:=e2 x
    have:=e3 x
    omega
   ·
    have:=hc L[j].bk
    omega
   ·
    rw [i1.get]
    have h1:=e2 L[j].bk
    have h2:=e3 L[j].bk
    simp only [beq_self_eq_true,Bool.toNat_true] at h1
    omega
 obtain ⟨i1,i2⟩:=key j (by omega)
 exact ⟨KI.sub_key h he (List.getElem_mem hj),i1.pos,i1.srt,i2⟩
theorem EA (a b:Value) (W:World):(Instr.index 148 (.agg #[a,b]) (.int .i64 0)).run Tryz.prog W=.ok a W:=by kernel_rfl
theorem FQ (a b:Value) (W:World):(Instr.index 148 (.agg #[a,b]) (.int .i64 1)).run Tryz.prog W=.ok b W:=by kernel_rfl
section
variable {w w':World} {X F:Nat→Prop} {k:KPtr} {r:KRule} {s:KSt}
theorem Oa (b:Bool) (h:Aj k r s w X):Calls Tryz.prog 27 #[ptr0 (k.gb b)] w fun e w'=>∃ (A:Option Addr) (a:Nat),e=.returned (.slice A (r.liveB s b).length a)∧OwnE w' w.heap.size A a (r.liveB s b)∧Below w.heap.size w w':=by
 obtain ⟨X1,h1,-,-⟩:=Ef b h
 exact Qn h1
set_option maxRecDepth 100000 in
set_option maxHeartbeats 8000000 in
theorem QA (hI:KI r s) (h:Aj k r s w X):Calls Tryz.prog 54 #[ptr0 k.g] w fun e w'=>∃ (A:Option Addr) (a:Nat),e=.returned (.slice A (r.live s).length a)∧OwnE w' w.heap.size A a (r.live s)∧Below w.heap.size w w':=by
 have GV:=Lib.hid (CG h)
 have c0:=(Bt h).1.cell 0
 have c1:=(Bt h).1.cell 1
 have l1:=hI.lenB true
 have l2:=hI.lenB false
 have LV:=Lib.hid fun b (W:World) (hb:Below w.heap.size w W)=>Oa b (keepOb_ok.call h hb)
 have LV1:=Lib.hid (LV.out true)
 have LV2:=Lib.hid (LV.out false)
 have i0:=fun W=>EA (ptr0 (k.gb true)) (ptr0 (k.gb false)) W
 have i1:=fun W=>FQ (ptr0 (k.gb true)) (ptr0 (k.gb false)) W
 unfold KRule.live
 obtain ⟨L1,e1⟩:∃ L,r.liveB s true=L:=⟨_,rfl⟩
 obtain ⟨L2,e2⟩:∃ L,r.liveB s false=L:=⟨_,rfl⟩
 rw [e1] at LV1 l1 ⊢
 rw [e2] at LV2 l2 ⊢
 clear LV e1 e2 h hI
 go_enter Tryz.func54,Tryz.ntmps54
 go_wp2_with (go_at_call 107;with_reducible refine GV.out.mono ?_;rintro e w1 ⟨rfl,rfl⟩)
 refine wp_loop_rounds 3 ?_
 rw [rounds_succ]
 go_wp2_with (first
  | (go_at_call 27;(with_reducible refine (LV1.out _ (Below.refl _ _)).mono ?_);rintro e w1 ⟨A1,q1,rfl,hO1,hb1⟩)
  | (at_builtin;(refine Aw rfl (.tmp 16) (.tmp 18) rfl w.heap.size none 0 [] 0 rfl rfl (OwnA.nil _ _) A1 q1 L1 L1.length rfl rfl hO1.reads (by omega) hb1.size ?_;intro A3 q3 w3 hO3 hP3)))
 have hb3:=hP3.below hb1 hb1.size (fun b hb=>by obtain ⟨a,e,-⟩:=hb;cases e)
 rw [List.nil_append] at hO3
 clear hP3
 rw [rounds_succ]
 go_wp2_with (first
  | (go_at_call 27;(with_reducible refine (LV2.out _ hb3).mono ?_);rintro e w4 ⟨A4,q4,rfl,hO4,hb4⟩)
  | (at_builtin;(refine Aw rfl (.tmp 16) (.tmp 18) rfl w.heap.size A3 q3 L1 L1.length rfl rfl (hO3.call hb4) A4 q4 L2 L2.length rfl rfl hO4.reads (by omega) (by have:=hb3.size;have:=hb4.size;omega) ?_;intro A5 q5 w5 hO5 hP5)))
 have hb5:=hP5.below (A8 hb4 hb3) (by have:=hb3.size;have:=hb4.size;omega) (fun b hb=>((hO3.call hb4).block hb).1)
 clear hP5
 rw [rounds_succ]
 go_wp2_with fail
 go_ret
 exact ⟨A5,q5,by rw [List.length_append];simp,hO5,hb5⟩
end
end Go.Proofs.YteklkljndchjiaaGreat
