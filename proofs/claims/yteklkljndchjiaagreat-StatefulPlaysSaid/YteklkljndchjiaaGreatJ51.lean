/- stateful: plain: how many live connections a backend has, and loads that follow them. -/
import Derived.Test.YteklkljndchjiaaGreatJ46
import Derived.Test.YteklkljndchjiaaGreatJ50
namespace Go.Proofs.YteklkljndchjiaaGreat
open Go Go.RowKit Go.Deep Go.Maps Go.ChangeMaps
def bkN (b:Int) (L:List Slt):Nat:=L.countP fun x=>x.bk==b
def cR (f:Nat→Bool) (n:Nat):Nat:=(List.range n).countP f
theorem Hy (f:Nat→Bool) (n:Nat):cR f (n+1)=cR f n+(f n).toNat:=by
 unfold cR
 rw [List.range_succ,List.countP_append,List.countP_singleton]
 cases f n <;> rfl
theorem KV {f f':Nat→Bool}:∀ {n:Nat},(∀ j,j<n→f' j=f j)→cR f' n=cR f n
 | 0,_=>rfl
 | n+1,h=>by rw [Hy,Hy,KV (n:=n) fun j hj=>h j (by omega),h n (by omega)]
theorem RG {f f':Nat→Bool} {k:Nat} (h:∀ j,j≠k→f' j=f j):∀ {n:Nat},k<n→cR f' n+(f k).toNat=cR f n+(f' k).toNat
 | 0,hk=>by omega
 | n+1,hk=>by
  rw [Hy,Hy]
  by_cases e:k=n
  ·
   subst e
   rw [KV fun j hj=>h j (by omega)]
   omega
  ·
   rw [h n (fun e2=>e e2.symm)]
   have:=RG h (n:=n) (by omega)
   omega
theorem AJ (b:Int) (L K:List Slt):bkN b (L ++ K)=bkN b L+bkN b K:=List.countP_append
theorem bkN_le (b:Int) (L:List Slt):bkN b L≤L.length:=List.countP_le_length
theorem Gv (b:Int) (n:Nat) (s:TSt):bkN b (liveL n s)=cR (fun k=>(s.E k).used && ((s.E k).bk==b)) n:=by
 unfold bkN liveL Aq allL cR
 rw [List.countP_map,List.countP_filter]
 congr 1
 funext k
 simp [Bool.and_comm]
theorem Hz (b:Int) (x:Slt):bkN b [x]=(x.bk==b).toNat:=by
 unfold bkN
 rw [List.countP_singleton]
 cases x.bk==b <;> rfl
theorem bkN_E {n:Nat} {s s':TSt} (h:∀ k,k<n→s'.E k=s.E k) (b:Int):bkN b (liveL n s')=bkN b (liveL n s):=by
 rw [Gv,Gv]
 exact KV fun j hj=>by rw [h j hj]
theorem HE {n k:Nat} {s s':TSt} {x:Slt} (hk:k<n) (hE:s'.E=updE s.E k x) (b:Int):bkN b (liveL n s')+((s.E k).used && ((s.E k).bk==b)).toNat=bkN b (liveL n s)+(x.used && (x.bk==b)).toNat:=by
 rw [Gv,Gv]
 have h:=RG (f:=fun k=>(s.E k).used && ((s.E k).bk==b)) (f':=fun k=>(s'.E k).used && ((s'.E k).bk==b)) (k:=k) (fun j hj=>by rw [hE,AP _ _ hj]) hk
 simp only [hE,Ad] at h ⊢
 exact h
theorem IV {f g h:Nat→List Slt} {b:Int}:∀ {p:Nat},(∀ i,i<p→bkN b (f i)+bkN b (g i)=bkN b (h i))→bkN b (catF f p)+bkN b (catF g p)=bkN b (catF h p)
 | 0,_=>rfl
 | p+1,hh=>by
  have h1:=IV (p:=p) fun i hi=>hh i (by omega)
  have h2:=hh p (by omega)
  rw [catF,catF,catF,AJ,AJ,AJ]
  omega
theorem RH {n p i:Nat} {S:Nat→TSt} {s':TSt} (hi:i<p) (b:Int):bkN b (entsL n p (updS S i s'))+bkN b (liveL n (S i))=bkN b (entsL n p S)+bkN b (liveL n s'):=by
 have key:∀ p,i<p→bkN b (catF (fun j=>liveL n (updS S i s' j)) p)+bkN b (liveL n (S i))=bkN b (catF (fun j=>liveL n (S j)) p)+bkN b (liveL n s'):=fun p=>by
  induction p with
  | zero=>intro h;omega
  | succ p ih =>
   intro h
   rw [catF,catF,AJ,AJ]
   by_cases e:i=p
   ·
    subst e
    rw [Bm,IM (f:=fun j=>liveL n (updS S i s' j)) (f':=fun j=>liveL n (S j)) fun j hj=>by rw [Cc _ _ (by omega)]]
    omega
   ·
    rw [Cc _ _ (fun e2=>e e2.symm)]
    have:=ih (by omega)
    omega
 exact key p hi
theorem GZ {n:Nat} (b:Int):∀ (S:List Int) {s:TSt},TI n s→S.Nodup→(∀ x ∈ S,0≤x∧x<n∧(s.E x.toNat).used=true)→bkN b (liveL n (goAll n s S))+bkN b (S.map fun x=>s.E x.toNat)=bkN b (liveL n s)
 | [],s,_,_,_=>rfl
 | x :: S,s,h,hn,hx=>by
  obtain ⟨a,c,d⟩:=hx x List.mem_cons_self
  rw [List.nodup_cons] at hn
  obtain ⟨k,rfl⟩:∃ k:Nat,x=(k:Int):=⟨x.toNat,by omega⟩
  rw [Int.toNat_natCast] at d
  have h2:=h.gone (k:=k) (by omega) d
  have hE:∀ j:Nat,j≠k→(goS n s k).E j=s.E j:=fun j hj=>AP _ _ hj
  have hne:∀ y ∈ S,y.toNat≠k:=fun y hy e=>hn.1 (by
   have:=(hx y (List.mem_cons_of_mem _ hy)).1
   rw [show (k:Int)=y by omega]
   exact hy)
  have ih:=GZ b S h2 hn.2 fun y hy=>by
   obtain ⟨a2,b2,d2⟩:=hx y (List.mem_cons_of_mem _ hy)
   rw [hE y.toNat (hne y hy)]
   exact ⟨a2,b2,d2⟩
  rw [show (S.map fun x=>(goS n s k).E x.toNat)=S.map fun x=>s.E x.toNat from List.map_congr_left fun y hy=>hE _ (hne y hy)] at ih
  have h3:=HE (n:=n) (k:=k) (s:=s) (s':=goS n s k) (x:=clrS (s.E k)) (by omega) rfl b
  rw [d] at h3
  have h4:(clrS (s.E k)).used=false:=rfl
  rw [h4] at h3
  rw [Et,Int.toNat_natCast,List.map_cons,show ((fun x:Int=>s.E x.toNat) (k:Int) :: S.map fun x=>s.E x.toNat)=[s.E k] ++ S.map fun x=>s.E x.toNat from rfl,AJ,Hz]
  simp only [Bool.true_and,Bool.false_and,Bool.toNat_false] at h3
  omega
theorem bkN_go {n:Nat} {s:TSt} (h:TI n s) {G nw:Int} {S:List Int} (hS:GoS G s.now nw s.M S) (b:Int):bkN b (liveL n (goTab n s nw S))+bkN b (Au s S)=bkN b (liveL n s):=by
 have hm:∀ x ∈ S,0≤x∧x<n∧(s.E x.toNat).used=true:=fun x hx=>by
  cases hg:goOk s.now nw
  ·
   rw [hS.no hg] at hx
   cases hx
  · exact (h.has x).1 ((hS.mem hg x).1 hx).1
 rw [← GZ b S h hS.nd hm]
 congr 1
 refine bkN_E (fun k _=>?_) b
 rw [(h.go hS).2.1 k,(TI.all S h hS.nd hm).2.1 k]
theorem RI {n:Nat} {s:TSt} (h:TI n s) (bk b:Int):bkN b (liveL n (AX n bk s))+bkN b (Aq s.E (dropL n bk s))=bkN b (liveL n s):=by
 unfold AX dropL Aq
 rw [Me]
 have hm:∀ k:Nat,k ∈ allL s.E (fun x=>x.bk==bk) n→k<n∧(s.E k).used=true:=fun k hk=>by
  unfold allL at hk
  rw [List.mem_filter,List.mem_range,Bool.and_eq_true] at hk
  exact ⟨hk.1,hk.2.1⟩
 have hk:=GZ b ((allL s.E (fun x=>x.bk==bk) n).map fun k:Nat=>(k:Int)) h (by unfold List.Nodup;rw [List.pairwise_map];exact (FC s.E _ n).imp fun h e=>h (by omega)) (fun x hx=>by
  obtain ⟨k,hk,rfl⟩:=List.mem_map.1 hx
  have:=hm k hk
  rw [Int.toNat_natCast]
  exact ⟨by omega,by omega,this.2⟩)
 rw [List.map_map] at hk
 exact hk
theorem O9 {c:TCfg} {n:Nat} {s:TSt} (i fl b:Int):bkN b (liveL n (Bd c n s i fl))+(AG n s i && ((AO c n s i fl).st==4) && ((AO c n s i fl).bk==b)).toNat=bkN b (liveL n s):=by
 cases hc:AG n s i
 ·
  rw [F6 hc]
  exact bkN_E (fun k _=>by rw [AQ]) b
 ·
  obtain ⟨k,rfl,hk,hu⟩:=DP.1 hc
  by_cases h4:nextS (s.E ((k:Int)).toNat).st fl=4
  ·
   have hv:AO c n s k fl=nextT (s.E ((k:Int)).toNat) fl:=by unfold AO;rw [if_pos hc,if_pos h4]
   have hst:((AO c n s k fl).st==4)=true:=by rw [hv];exact beq_iff_eq.2 h4
   have hbk:(AO c n s k fl).bk=(s.E k).bk:=by rw [hv,Int.toNat_natCast];rfl
   rw [hst,hbk,DQ hc h4]
   have h3:=HE (n:=n) (k:=k) (s:=s) (s':=goS n (lookS n k s) ((k:Int)).toNat) (x:=clrS (s.E k)) hk (by rw [Int.toNat_natCast];show updE (lookS n k s).E k (clrS ((lookS n k s).E k))=_;rw [AQ]) b
   rw [hu,show (clrS (s.E k)).used=false from rfl] at h3
   simpa using h3
  ·
   have hv:=DS (c:=c) hc h4
   have hst:((AO c n s k fl).st==4)=false:=by rw [hv];exact beq_eq_false_iff_ne.2 h4
   rw [hst,DT hc h4]
   have h3:=HE (n:=n) (k:=k) (s:=s) (s':={ s with E:=updE s.E ((k:Int)).toNat (AO c n s k fl),M:=lmPut s.M ((k:Int)).toNat (AO c n s k fl).due,lk:=(lookS n k s).lk }) (x:=AO c n s k fl) hk (by rw [Int.toNat_natCast]) b
   rw [Int.toNat_natCast] at hv
   have e1:(AO c n s k fl).used=(s.E k).used:=by rw [hv];rfl
   have e2:(AO c n s k fl).bk=(s.E k).bk:=by rw [hv];rfl
   rw [e1,e2] at h3
   simp only [Bool.and_false,Bool.false_and,Bool.toNat_false,Nat.add_zero]
   omega
theorem Qu {r:TRule} {n:Nat} {s:TSt} (t:Tup) (k fl b:Int):bkN b (liveL n (Bn r n s t k fl))+(Cv r n s t k && ((CL r n s t k fl).st==4) && ((CL r n s t k fl).bk==b)).toNat=bkN b (liveL n s):=by
 have hE:bkN b (liveL n (findSC r n s t k))=bkN b (liveL n s):=bkN_E (fun j _=>by rw [(F9 s t k).1]) b
 unfold Bn Cv CL
 cases hf:Bp r n s t k
 · simpa using hE
 ·
  rw [← hE]
  simp only [if_true,Bool.true_and]
  exact O9 _ _ _
theorem RJ {r:TRule} {n:Nat} {s:TSt} (hr:AF r=true) (hn:n=2 ^ r.sl.toNat) (hi:TI n s) (t:Tup) (bk fl b:Int):bkN b (liveL n (openS r.cfg n s t bk fl))=bkN b (liveL n s)+((openE s t bk fl==0) && (bk==b)).toNat:=by
 by_cases h:openE s t bk fl=0
 ·
  obtain ⟨k,c,-,-,-,-,hc,hu,hE,-,hbk,-,-,hus⟩:=DA hr hn hi t bk fl h
  have h3:=HE hc hE b
  rw [hu,hus,hbk] at h3
  rw [h]
  simpa using h3
 ·
  rw [KM h,beq_eq_false_iff_ne.2 h]
  simp
theorem IW (M:LM) (id:Int):lmGet (lmDel M id) id=0:=by
 unfold lmGet
 rw [List.find?_eq_none.2 fun x hx=>by
  have:=(List.mem_filter.1 hx).2
  cases e:x.1==id
  · simp
  ·
   rw [e] at this
   cases this]
structure LdI (M:LM) (c:Int→Nat):Prop where
 srt:AA M
 pos:lmPos M
 wf:lmWf M
 get:∀ b,lmGet M b=(c b:Int)
theorem LdI.congr {M:LM} {c c':Int→Nat} (h:LdI M c) (e:∀ b,c b=c' b):LdI M c':=⟨h.srt,h.pos,h.wf,fun b=>by rw [h.get,e]⟩
theorem LdI.new:LdI [] (fun _=>0):=⟨List.Pairwise.nil,fun _ h=>(by cases h),fun _ h=>(by cases h),fun _=>rfl⟩
theorem LdI.key {M:LM} {c:Int→Nat} (h:LdI M c) {b:Int} (hb:0<c b):(Lit.int .i64 b).wf=true:=by
 have hg:=h.get b
 unfold lmGet at hg
 cases hf:M.find? (fun x=>x.1==b) with
 | none=>rw [hf] at hg;have hg:(0:Int)=(c b:Int):=hg;omega
 | some x =>
  have h1:=List.mem_of_find?_eq_some hf
  have h2:=List.find?_some hf
  have:=h.wf x h1
  rwa [beq_iff_eq.1 h2] at this
theorem LdI.add {M:LM} {c:Int→Nat} (h:LdI M c) {b:Int} (hw:(Lit.int .i64 b).wf=true) (hc:c b<1000000):LdI (lmAdd M b 1) (fun x=>c x+(b==x).toNat) where
 srt:=Gh h.srt b 1
 pos:=Jy h.pos b 1
 wf:=Mw h.wf hw
 get:=fun x=>by
  have hg:=h.get b
  unfold lmAdd
  rw [if_neg (by omega),hg,Int.min_eq_right (by omega),if_neg (by omega)]
  by_cases e:x=b
  ·
   subst e
   rw [CB]
   simp
  ·
   rw [Gp e,h.get x,beq_eq_false_iff_ne.2 fun e2=>e e2.symm]
   simp
theorem LdI.sub {M:LM} {c c':Int→Nat} (h:LdI M c') {b:Int} (e:∀ x,c' x=c x+(b==x).toNat) (hc:c b<1000000):LdI (lmAdd M b (-1)) c where
 srt:=Gh h.srt b _
 pos:=Jy h.pos b _
 wf:=Mw h.wf (h.key (b:=b) (by rw [e b];simp))
 get:=fun x=>by
  have hg:=h.get b
  have eb:=e b
  simp only [beq_self_eq_true,Bool.toNat_true] at eb
  unfold lmAdd
  rw [if_neg (by omega),hg,Int.min_eq_right (by omega)]
  by_cases e2:x=b
  ·
   subst e2
   split
   ·
    rw [IW]
    omega
   ·
    rw [CB]
    omega
  ·
   have ex:=e x
   rw [beq_eq_false_iff_ne.2 fun e3=>e2 e3.symm] at ex
   simp only [Bool.toNat_false,Nat.add_zero] at ex
   split
   · rw [E8 e2,h.get x,ex]
   · rw [Gp e2,h.get x,ex]
def AE (M:LM) (L:List Slt):LM:=L.foldl (fun M x=>lmAdd M x.bk (-1)) M
theorem Fl (M:LM) (L K:List Slt):AE M (L ++ K)=AE (AE M L) K:=List.foldl_append ..
theorem EN {M:LM} {L:List Slt} {k:Nat} (hk:k<L.length):AE M (L.take (k+1))=lmAdd (AE M (L.take k)) (L[k]).bk (-1):=by
 unfold AE
 rw [List.take_add_one,List.getElem?_eq_getElem hk,Option.toList_some,List.foldl_append]
 rfl
theorem LdI.subs:∀ (L:List Slt) {M:LM} {c c':Int→Nat},LdI M c'→(∀ x,c' x=c x+bkN x L)→(∀ b,c' b<1000000)→LdI (AE M L) c
 | [],M,c,c',h,e,_=>h.congr fun b=>by have:=e b;simpa [bkN] using this
 | y :: L,M,c,c',h,e,hc=>by
  have h2:LdI (lmAdd M y.bk (-1)) (fun x=>c x+bkN x L):=h.sub (fun x=>by
   rw [e x,show y :: L=[y] ++ L from rfl,AJ,Hz]
   omega) (by
   have:=hc y.bk
   have:=e y.bk
   rw [show y :: L=[y] ++ L from rfl,AJ] at this
   omega)
  exact LdI.subs L h2 (fun x=>rfl) fun b=>by
   have:=hc b
   have:=e b
   rw [show y :: L=[y] ++ L from rfl,AJ] at this
   omega
theorem Hk (x:Int × Int) (M:LM) (j:Int):lmGet (x :: M) j=if x.1=j then x.2 else lmGet M j:=by
 unfold lmGet
 rw [List.find?_cons]
 by_cases h:x.1=j
 · simp [h]
 · rw [if_neg h,beq_eq_false_iff_ne.2 h]
theorem Qv {M:LM} {id:Int} (h:∀ x ∈ M,id<x.1):lmGet M id=0:=by
 unfold lmGet
 rw [List.find?_eq_none.2 fun x hx=>by have:=h x hx;simp;omega]
theorem My:∀ (M:LM) (L:List Slt),AA M→lmPos M→(∀ b,lmGet M b=(bkN b L:Int))→lmSum M=L.length∧M.length≤L.length
 | [],L,_,_,h=>by
  cases L with
  | nil=>exact ⟨rfl,Nat.le_refl _⟩
  | cons y L =>
   have h1:=h y.bk
   rw [show y :: L=[y] ++ L from rfl,AJ,Hz] at h1
   have h2:lmGet [] y.bk=0:=rfl
   rw [h2,beq_self_eq_true] at h1
   simp only [Bool.toNat_true] at h1
   omega
 | x :: M,L,hs,hp,h=>by
  obtain ⟨h1,h2⟩:=List.pairwise_cons.1 hs
  have hx:=hp x List.mem_cons_self
  have hc:∀ b,bkN b L=bkN b (L.filter fun y=>!(y.bk==x.1))+(if b=x.1 then bkN b L else 0):=fun b=>by
   unfold bkN
   rw [List.countP_filter]
   by_cases e:b=x.1
   ·
    subst e
    have e0:List.countP (fun y:Slt=>(y.bk==x.1) && !(y.bk==x.1)) L=0:=List.countP_eq_zero.2 fun y _=>by
     show ¬ ((y.bk==x.1) && !(y.bk==x.1))=true
     cases y.bk==x.1 <;> decide
    rw [if_pos rfl]
    omega
   ·
    rw [if_neg e,Nat.add_zero]
    refine List.countP_congr fun y _=>?_
    simp only [Bool.and_eq_true,beq_iff_eq,Bool.not_eq_true',beq_eq_false_iff_ne]
    exact ⟨fun h=>⟨h,fun e2=>e (h.symm.trans e2)⟩,fun h=>h.1⟩
  have ih:=My M (L.filter fun y=>!(y.bk==x.1)) h2 (fun y hy=>hp y (List.mem_cons_of_mem _ hy)) fun b=>by
   have hb:=h b
   rw [Hk] at hb
   have hcb:=hc b
   by_cases e:x.1=b
   ·
    subst e
    rw [if_pos rfl] at hcb
    rw [Qv h1]
    omega
   ·
    rw [if_neg e] at hb
    rw [if_neg fun e2=>e e2.symm] at hcb
    omega
  have hxl:=h x.1
  rw [Hk,if_pos rfl] at hxl
  have hlen:L.length=(L.filter fun y=>!(y.bk==x.1)).length+bkN x.1 L:=by
   have:=List.length_eq_countP_add_countP (p:=fun y:Slt=>y.bk==x.1) (l:=L)
   unfold bkN
   rw [← List.countP_eq_length_filter]
   simp only [Bool.not_eq_true,Bool.decide_eq_false] at this
   omega
  have hsum:lmSum (x :: M)=x.2+lmSum M:=by unfold lmSum;simp
  rw [hsum,List.length_cons]
  omega
theorem LdI.total {M:LM} {L:List Slt} (h:LdI M fun b=>bkN b L):lmSum M=L.length∧M.length≤L.length:=My M L h.srt h.pos h.get
end Go.Proofs.YteklkljndchjiaaGreat
