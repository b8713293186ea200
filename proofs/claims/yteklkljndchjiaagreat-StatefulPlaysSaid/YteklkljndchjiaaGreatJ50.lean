/- the keys of a map of integers, sorted (by the shelf's contracts, laid in KeysL). load: IDs, Total, Clear; loads that nobody made. load: Clear on loads that were made. load: the document's Clear and Total; what any steps leave. the document's loads as a part of a block, at any place. -/
import Derived.Test.YteklkljndchjiaaGreatKeysL
import Derived.Test.YteklkljndchjiaaGreatJ22
namespace Go.Proofs.YteklkljndchjiaaGreat
open Go Go.RowKit Go.Deep Go.Maps Go.Sort Go.Shelf
theorem O4 (m:Nat):AnyZI.SortsIn Tryz.prog Tryz.sortedA_ren Fence.wide m :=
 ⟨fun blk off cap ss W hH hblk hsz=>callsIn_wide.2 (AnyM.slices_Sort_int Tryz.sortA blk off cap ss W hH hblk hsz),
  fun p cap W=>callsIn_wide.2 (AnyM.slices_Sort_int_none Tryz.sortA p cap W)⟩
theorem RE (mb:Option Nat) (W:World):Calls Tryz.prog 111 #[.map mb] W fun e w'=>e=.returned (.func (.func 183) #[] #[.pointer (some ⟨W.heap.size,0,none⟩)])∧w'=W.alloc (.cells #[.map mb] 161) :=
 callsIn_wide.1 (AnyZI.keys_in Tryz.keysA Fence.wide 5 trivial rfl mb W)
theorem Qt {M:LM} (hs:AA M) {ss:List Int} (h:ss.Perm (M.map Prod.fst)):ss.mergeSort (fun x y=>decide (x≤y))=M.map Prod.fst:=by
 have h1:=List.pairwise_mergeSort (le:=fun x y:Int=>decide (x≤y)) (by simp;omega) (by intro a b;simp;omega) ss
 have h2:(M.map Prod.fst).Pairwise (fun a b=>(decide (a≤b))=true):=by
  rw [List.pairwise_map]
  exact hs.imp (fun {a b} hab=>by simpa using Int.le_of_lt hab)
 refine List.Perm.eq_of_pairwise (fun a b _ _ hab hba=>?_) h1 h2 ((List.mergeSort_perm ss _).trans h)
 simp at hab hba;omega
theorem O6 (M:LM):intKeys (lmD M)=M.map Prod.fst:=by
 unfold lmD lmE
 show List.map (fun p:Lit × DataW Unit=>Go.intOf p.1) (List.map _ M)=_
 rw [List.map_map]
 rfl
theorem Pb (M:LM):Maps.size (lmD M)=M.length:=by
 unfold lmD lmE;simp [Maps.size]
set_option maxHeartbeats 1000000 in
theorem Mt {b:Nat} {M:LM} {w:World} (h:Imap w b M) (hs:AA M) (hl:M.length≤100000) :
  Calls Tryz.prog 110 #[.func (.func 183) #[] #[.pointer (some ⟨w.heap.size,0,none⟩)]] (w.alloc (.cells #[.map (some b)] 161)) fun e w'=>∃ A c,e=.returned (.slice A M.length c)∧Reads w' w'.heap.size 1 A M.length ((M.map Prod.fst).map (.int .i64))∧Below w.heap.size w w':=by
 have hown:w.ownsMap Tryz.prog 3 (plainElem Tryz.prog 3) b M.length (lmD M):=h
 have hbl:=hown.lt
 have hseq:SeqGives Fence.wide 2 Tryz.prog 183 #[.pointer (some ⟨w.heap.size,0,none⟩)] encZ (fun ss=>ss.Perm (intKeys (lmD M))) (Maps.size (lmD M)) (w.alloc (.cells #[.map (some b)] 161)) :=
  AnyZI.keys_gives (ρ:=Tryz.keysA_ren) { Tryz.keysA with } Fence.wide _ trivial rfl (by omega) w.heap.size b M.length (lmD M) _ (by simp) (by simp) (by
   obtain ⟨es,clock,hb,Ft,hs,hD⟩:=hown
   exact ⟨es,clock,(Below.heap_alloc _ _ b hbl).trans hb,Ft,hs,hD⟩)
 have cS:=AnyZI.sorted_in Tryz.sortedA Fence.wide 5 trivial trivial trivial trivial rfl (by omega) (O4 _) (enters_of Tryz.func182 (by kernel_rfl) rfl) 183 #[.pointer (some ⟨w.heap.size,0,none⟩)] trivial (enters_of Tryz.func183 (by kernel_rfl) rfl) _ _ (by rw [Pb];unfold maxLen;omega) (by rw [Pb];omega) _ hseq
 refine (callsIn_wide.1 cS).mono ?_
 rintro e w' ⟨v,ss,rfl,hperm,hown',-,hb⟩
 rw [O6] at hperm
 rw [Qt hs hperm] at hown'
 have hlen:ss.length=M.length:=by rw [hperm.length_eq,List.length_map]
 rw [hlen] at hown'
 obtain ⟨A,c,rfl⟩:=Df w' hown'
 exact ⟨A,c,rfl,Reads.of_own hown',A8 hb (Aa (Below.refl _ _) _)⟩
end Go.Proofs.YteklkljndchjiaaGreat
namespace Go.Proofs.YteklkljndchjiaaGreat
open Go Go.RowKit Go.Deep
theorem Mu (g b:Nat) (M:LM) (w:World) (h:LoadAt w g b M) (hs:AA M) (hl:M.length≤100000):Calls Tryz.prog 58 #[.pointer (some ⟨g,0,none⟩)] w fun e w'=>∃ A c,e=.returned (.slice A M.length c)∧Reads w' w'.heap.size 1 A M.length ((M.map Prod.fst).map (.int .i64))∧Below w.heap.size w w':=by
 have c0:=h.1.cell 0
 simp at c0
 have G:=Lib.hid (Fu g b M w h)
 have S:=Lib.hid (Mt h.2 hs hl)
 clear h
 go_enter Tryz.func58,Tryz.ntmps58
 go_wp2_with fail
 refine G.out.mono ?_
 rintro e w1 ⟨rfl,rfl⟩
 go_wp2_with fail
 refine (RE _ _).mono ?_
 rintro e w1 ⟨rfl,rfl⟩
 go_wp2_with fail
 refine S.out.mono ?_
 rintro e w1 ⟨A,c,rfl,hr,hb⟩
 go_wp2_with fail
 go_ret
 exact ⟨A,c,rfl,hr,hb⟩
def lmSum (M:LM):Int:=(M.map Prod.snd).sum
theorem FM (M:LM) (k:Nat) (x:Int × Int) (h:M[k]?=some x):lmSum (M.take (k+1))=lmSum (M.take k)+x.2:=by
 obtain ⟨hk,rfl⟩:=List.getElem?_eq_some_iff.1 h
 unfold lmSum
 rw [List.take_succ_eq_append_getElem hk,List.map_append,List.sum_append]
 simp
theorem IP (M:LM) (hp:lmPos M):∀ k,k≤M.length→0≤lmSum (M.take k)∧lmSum (M.take k)≤k * 1099511627776
 | 0,_=>by simp [lmSum]
 | k+1,h=>by
  have ih:=IP M hp k (by omega)
  have hx:=hp M[k] (List.getElem_mem (by omega))
  rw [FM M k M[k] (List.getElem?_eq_getElem (by omega))]
  omega
theorem RF {M:LM} (hs:AA M) {k:Nat} {x:Int × Int} (h:M[k]?=some x):lmGet M x.1=x.2:=by
 obtain ⟨hk,rfl⟩:=List.getElem?_eq_some_iff.1 h
 unfold lmGet
 have:M.find? (fun y=>y.1==M[k].1)=some M[k]:=by
  rw [List.find?_eq_some_iff_getElem]
  refine ⟨by simp,k,hk,rfl,fun j hj=>?_⟩
  have:=(List.pairwise_iff_getElem.1 hs) j k (by omega) hk hj
  simp;omega
 rw [this]
def lmWf (M:LM):Prop:=∀ x ∈ M,(Lit.int .i64 x.1).wf=true
set_option maxRecDepth 100000 in
set_option maxHeartbeats 2000000 in
theorem O8 (g b:Nat) (M:LM) (w:World) (h:LoadAt w g b M) (hs:AA M) (hp:lmPos M) (hw:lmWf M) (hl:M.length≤100000):Calls Tryz.prog 59 #[.pointer (some ⟨g,0,none⟩)] w fun e w'=>e=.returned (.int .i64 (lmSum M))∧Below w.heap.size w w':=by
 have I:=Lib.hid (Mu g b M w h hs hl)
 go_enter Tryz.func59,Tryz.ntmps59
 go_wp2_with fail
 refine I.out.mono ?_
 rintro e w1 ⟨A,c,rfl,hr,hb⟩
 have h1:=h.call hb
 have c0:=h1.1.cell 0
 simp at c0
 clear h I
 go_wp2_with fail
 go_loopw [3,9] (fun n i wr=>∃ k:Nat,k≤M.length∧i=.int .i64 (k:Nat)∧n=.int .i64 (lmSum (M.take k))∧w1=wr) (fun _ i _=>M.length - (intOf i).toNat)
 case atStart=>exact ⟨0,by omega,rfl,by simp [lmSum],rfl⟩
 case round =>
  obtain ⟨k,hk,rfl,rfl,rfl⟩:=hrel
  by_cases hlt:k<M.length
  ·
   have hlti:(k:Int)<(M.length:Int):=by omega
   obtain ⟨x,hx⟩:∃ x,M[k]?=some x:=⟨_,List.getElem?_eq_getElem hlt⟩
   have hst:=FM M k x hx
   have hbd:=IP M hp k hk
   have hbx:=hp x (List.mem_of_getElem? hx)
   have hlk:=h1.2.look (hw x (List.mem_of_getElem? hx))
   rw [RF hs hx] at hlk
   have hc:=hr.2 (by omega)
   obtain ⟨ad,rfl,hbl,hcell⟩:=hc
   have c1:=hcell k (.int .i64 x.1) (by rw [List.getElem?_map,List.getElem?_map,hx];rfl)
   obtain ⟨xi,xn⟩:=x
   dsimp only at *
   generalize lmSum (M.take k)=s at *
   obtain ⟨hb1,hb2⟩:=hbd
   obtain ⟨hb3,hb4⟩:=hbx
   replace hst:=Lib.hid hst
   replace hcell:=Lib.hid hcell
   replace hx:=Lib.hid hx
   go_wp2_with fail
   go_roundw
   case rel=>exact ⟨k+1,by omega,by go_num,by rw [hst.out],(by trivial)⟩
   case measure=>simp [intOf];omega
  ·
   obtain rfl:k=M.length:=by omega
   have hlti:¬ (M.length:Int)<(M.length:Int):=by omega
   rw [List.take_length]
   go_wp2_with fail
   go_ret
   exact ⟨rfl,hb⟩
end Go.Proofs.YteklkljndchjiaaGreat
namespace Go.Proofs.YteklkljndchjiaaGreat
open Go Go.RowKit Go.Deep Go.Maps Go.ChangeMaps
theorem Mv {M:LM} (h:lmWf M) (id:Int):lmWf (lmDel M id):=fun x hx=>h x (List.mem_filter.1 hx).1
theorem Mw {M:LM} (h:lmWf M) {id n:Int} (hi:(Lit.int .i64 id).wf=true):lmWf (lmAdd M id n):=by
 unfold lmAdd
 split
 · exact h
 ·
  split
  · exact Mv h id
  ·
   intro x hx
   rcases ET hx with rfl | hx
   · exact hi
   · exact Mv h id x hx
structure LpGood (M:LM) (n:Nat):Prop where
 pos:lmPos M
 sorted:AA M
 wf:lmWf M
 len:M.length≤n
def IQ (w:World) (g o:Nat) (M:LM):Prop:=∃ t cs A c B d,Blk w g t cs∧cs[o]?=some (.slice A M.length c)∧cs[o+1]?=some (.slice B M.length d)∧Reads w w.heap.size 1 A (M.map Prod.fst).length ((M.map Prod.fst).map (.int .i64))∧Reads w w.heap.size 1 B (M.map Prod.snd).length ((M.map Prod.snd).map (.int .i64))
def KT (w w':World) (base g o:Nat) (M:LM):Prop:=∃ P p Q q,(∀ t cs,Blk w g t cs→Blk w' g t ((cs.setIfInBounds o (.slice P M.length p)).setIfInBounds (o+1) (.slice Q M.length q)))∧Two w' base P p (pre2 M) Q q (post2 M)
theorem C3 {w w':World} {g o:Nat} {t:TypeId} {cs:Array Value} {a b u v:Value} {X Y:Addr} (h1:Blk w g t cs) (e0:cs[o]?=some a) (e1:cs[o+1]?=some b) (hb:Below w.heap.size w w') (hc:w.cell? X=some u) (hd:w.cell? Y=some v) :
  w'.cell? ⟨g,o,none⟩=some a∧w'.cell? ⟨g,o+1,none⟩=some b∧w'.cell? X=some u∧w'.cell? Y=some v :=
 ⟨((h1.call hb).cell o).trans e0,((h1.call hb).cell (o+1)).trans e1,(hb.cell (A0 hc)).trans hc,(hb.cell (A0 hd)).trans hd⟩
theorem Mx {w w1:World} {g o:Nat} (h:Chg (·=g) w w1) (a b:Value):Chg (·=g) w ((w1.setCell ⟨g,o,none⟩ a).setCell ⟨g,o+1,none⟩ b) :=
 (h.setCell (p:=⟨g,o,none⟩) (fun _=>rfl) a).setCell (p:=⟨g,o+1,none⟩) (fun _=>rfl) b
theorem IR {w w1:World} {g o:Nat} {t:TypeId} {cs:Array Value} {P Q:Option Addr} {p q k:Nat} (out:LM) (hB:Blk w1 g t cs) (h1:Blk w g t cs) (hT:Two w1 w.heap.size P p (pre2 out) Q q (post2 out)) (hg:g<w.heap.size) (hk:out.length=k) :
  KT w ((w1.setCell ⟨g,o,none⟩ (.slice P k p)).setCell ⟨g,o+1,none⟩ (.slice Q k q)) w.heap.size g o out:=by
 subst hk
 have hP:¬ InB P g:=fun h=>by have:=(hT.fst.block h).1;omega
 have hQ:¬ InB Q g:=fun h=>by have:=(hT.snd.block h).1;omega
 refine ⟨P,p,Q,q,fun t' cs' h'=>?_,(hT.fst.far (p:=⟨g,o,none⟩) hP _).far (p:=⟨g,o+1,none⟩) hP _,(hT.snd.far (p:=⟨g,o,none⟩) hQ _).far (p:=⟨g,o+1,none⟩) hQ _,hT.apart⟩
 unfold Blk at h1 h'
 rw [h1] at h'
 obtain ⟨rfl,rfl⟩:cs=cs'∧t=t':=by injection h' with h';injection h' with h1 h2;exact ⟨h1,h2⟩
 exact (hB.set_ o (.slice P out.length p)).set_ (o+1) (.slice Q out.length q)
set_option maxHeartbeats 1000000 in
theorem KU (g o:Nat) (M:LM) (id:Int) (w:World) (h:IQ w g o M) (hl:M.length≤1000000):Calls Tryz.prog 180 #[.pointer (some ⟨g,o,none⟩),.int .i64 id] w fun e w'=>e=.returned (.int .i64 (lmGet M id))∧w=w':=by
 obtain ⟨t,cs,A,c,B,d,h1,ez0,ez1,h2,h3⟩:=h
 have c0:=(h1.cell o).trans ez0
 have c1:=(h1.cell (o+1)).trans ez1
 go_enter Tryz.func180,Tryz.ntmps180
 go_wp2_with fail
 go_loop [5] (fun i=>∃ k:Nat,k≤M.length∧i=.int .i64 (k:Nat)∧∀ j,j<k→(M.getD j (0,0)).1≠id) (fun i=>M.length - (intOf i).toNat)
 case atStart=>exact ⟨0,by omega,rfl,fun j hj=>absurd hj (by omega)⟩
 case round =>
  obtain ⟨k,hk,rfl,hall⟩:=hrel
  replace hall:=Lib.hid hall
  by_cases hlt:k<M.length
  ·
   have hlti:(k:Int)<(M.length:Int):=by omega
   obtain ⟨ad,rfl,hbl,hc⟩:=h2.int_at (i:=k) (by simpa using hlt)
   obtain ⟨ae,rfl,hbl2,hd⟩:=h3.int_at (i:=k) (by simpa using hlt)
   rw [LH] at hc
   rw [I9] at hd
   obtain ⟨x,hx⟩:∃ x,M.getD k (0,0)=x:=⟨_,rfl⟩
   rw [hx] at hc hd
   by_cases he:x.1=id
   ·
    have hfin:=JG hall.out hlt (by rw [hx,he])
    rw [hx] at hfin
    replace hfin:=Lib.hid hfin
    have heb:(x.1==id)=true:=by simpa using he
    replace hx:=Lib.hid hx
    replace he:=Lib.hid he
    go_wp2_with fail
    go_ret
    exact ⟨by rw [hfin.out];rfl,rfl⟩
   ·
    have heb:(x.1==id)=false:=by simpa using he
    replace hx:=Lib.hid hx
    replace he:=Lib.hid he
    go_wp2_with fail
    go_round
    case rel=>exact ⟨k+1,by omega,by go_num,fun i hi=>by
     rcases Nat.lt_succ_iff_lt_or_eq.1 hi with h | rfl
     · exact hall.out i h
     · rw [hx.out];exact he.out⟩
    case measure=>simp [intOf];omega
  ·
   obtain rfl:k=M.length:=by omega
   have hlti:¬ (M.length:Int)<(M.length:Int):=by omega
   have hfin:=Lib.hid (Nk hall.out)
   go_wp2_with fail
   go_ret
   exact ⟨by rw [hfin.out];rfl,rfl⟩
set_option maxRecDepth 140000 in
set_option maxHeartbeats 4000000 in
theorem Ji (g o:Nat) (M:LM) (id n:Int) (w:World) (h:IQ w g o M) (hl:M.length≤140000):Calls Tryz.prog 179 #[.pointer (some ⟨g,o,none⟩),.int .i64 id,.int .i64 n] w fun e w'=>e=.returned (.tuple #[])∧KT w w' w.heap.size g o (EI M id n)∧Chg (·=g) w w':=by
 obtain ⟨t,cs,A,c,B,d,h1,ez0,ez1,h2,h3⟩:=h
 have c0:=(h1.cell o).trans ez0
 have c1:=(h1.cell (o+1)).trans ez1
 have hglt:=h1.lt
 obtain ⟨zb,hzb⟩:∃ z,(n==0)=z:=⟨_,rfl⟩
 have hR0:E0 ([]:LM) id n=([],zb):=by rw [← hzb];rfl
 go_enter Tryz.func179,Tryz.ntmps179
 go_wp2_with fail
 clear c0 c1
 go_loopw [6,7,8,9] (fun s t dn i wr=>∃ (k:Nat) (P:Option Addr) (p:Nat) (Q:Option Addr) (q:Nat) (out:LM) (b:Bool),k≤M.length∧i=.int .i64 (k:Nat)∧E0 (M.take k) id n=(out,b)∧s=.slice P out.length p∧t=.slice Q out.length q∧dn=.bool b∧Two wr w.heap.size P p (pre2 out) Q q (post2 out)∧Below w.heap.size w wr) (fun _ _ _ i _=>M.length - (intOf i).toNat)
 case atStart=>exact ⟨0,none,0,none,0,[],zb,by omega,rfl,hR0,rfl,rfl,rfl,⟨OwnA.nil _ _,OwnA.nil _ _,fun b hb=>by obtain ⟨a,ha,_⟩:=hb;cases ha⟩,Below.refl _ _⟩
 case round =>
  obtain ⟨k,P,p,Q,q,out,bb,hk,rfl,hR,rfl,rfl,rfl,hT,hb⟩:=hrel
  have hB:=h1.call hb
  have c0:=(hB.cell o).trans ez0
  have c1:=(hB.cell (o+1)).trans ez1
  have hz:=hb.size
  have hol:out.length≤280000:=by
   have:=Ia id n (M.take k) ([],n==0)
   unfold E0 at hR
   rw [hR] at this
   simp at this
   omega
  by_cases hlt:k<M.length
  ·
   have hlti:(k:Int)<(M.length:Int):=by omega
   obtain ⟨ad,rfl,hbl,hc0⟩:=h2.int_at (i:=k) (by simpa using hlt)
   obtain ⟨ae,rfl,hbl2,hd0⟩:=h3.int_at (i:=k) (by simpa using hlt)
   have hstep:=LJ M id n k hlt
   rw [LH] at hc0
   rw [I9] at hd0
   rw [hR] at hstep
   obtain ⟨x,hx⟩:∃ x,M.getD k (0,0)=x:=⟨_,rfl⟩
   rw [hx] at hc0 hd0 hstep
   obtain ⟨_,_,hc,hd⟩:=C3 h1 ez0 ez1 hb hc0 hd0
   clear hx hR hzb hR0 hB
   replace hc0:=Lib.hid hc0
   replace hd0:=Lib.hid hd0
   cases bb
   ·
    by_cases g1:id≤x.1
    ·
     have e1:decide (id≤x.1)=true:=by simpa using g1
     by_cases g2:x.1=id
     ·
      have e2:(x.1 != id)=false:=by simpa using g2
      rw [Ib id n out x g2] at hstep
      replace hstep:=Lib.hid hstep
      replace g2:=Lib.hid g2
      go_wp2_with (first
       | (at_builtin;(refine Ap rfl (.tmp 34) (.tmp 36) rfl w.heap.size P p (pre2 out) (out.length) (by simp [AU]) rfl hT.fst _ rfl rfl (by simp [AU];omega) (by omega) ?_;intro P1 p1 w1 ho1 hp1;have hT1:=hT.push1 ho1 hp1;have hb1:=hp1.below hb (by omega) (fun b hb=>(hT.fst.block hb).1);have hz1:=hb1.size;clear c0 c1 hc hd;obtain ⟨c0,c1,hc,hd⟩:=C3 h1 ez0 ez1 hb1 hc0.out hd0.out))
       | (at_builtin;(refine Ap rfl (.tmp 38) (.tmp 40) rfl w.heap.size Q q (post2 out) (out.length) (by simp [AH]) rfl hT1.snd _ rfl rfl (by simp [AH];omega) (by omega) ?_;intro P2 p2 w2 ho2 hp2;have hT2:=hT1.push2 ho2 hp2;have hb2:=hp2.below hb1 (by omega) (fun b hb=>(hT1.snd.block hb).1);have hz2:=hb2.size;clear c0 c1 hc hd;obtain ⟨c0,c1,hc,hd⟩:=C3 h1 ez0 ez1 hb2 hc0.out hd0.out)))
      go_roundw
      case rel=>exact ⟨k+1,P1,p1,P2,p2,out ++ [(id,n)],true,by omega,by go_num,hstep.out,by simp,by simp,rfl,by (try simp only [Cj,BZ]);exact hT2,hb2⟩
      case measure=>simp [intOf];omega
     ·
      have e2:(x.1 != id)=true:=by simpa using g2
      rw [Gc id n out x g1 g2] at hstep
      replace hstep:=Lib.hid hstep
      replace g2:=Lib.hid g2
      go_wp2_with (first
       | (at_builtin;(refine Ap rfl (.tmp 34) (.tmp 36) rfl w.heap.size P p (pre2 out) (out.length) (by simp [AU]) rfl hT.fst _ rfl rfl (by simp [AU];omega) (by omega) ?_;intro P1 p1 w1 ho1 hp1;have hT1:=hT.push1 ho1 hp1;have hb1:=hp1.below hb (by omega) (fun b hb=>(hT.fst.block hb).1);have hz1:=hb1.size;clear c0 c1 hc hd;obtain ⟨c0,c1,hc,hd⟩:=C3 h1 ez0 ez1 hb1 hc0.out hd0.out))
       | (at_builtin;(refine Ap rfl (.tmp 38) (.tmp 40) rfl w.heap.size Q q (post2 out) (out.length) (by simp [AH]) rfl hT1.snd _ rfl rfl (by simp [AH];omega) (by omega) ?_;intro P2 p2 w2 ho2 hp2;have hT2:=hT1.push2 ho2 hp2;have hb2:=hp2.below hb1 (by omega) (fun b hb=>(hT1.snd.block hb).1);have hz2:=hb2.size;clear c0 c1 hc hd;obtain ⟨c0,c1,hc,hd⟩:=C3 h1 ez0 ez1 hb2 hc0.out hd0.out))
       | (at_builtin;(refine Ap rfl (.tmp 51) (.tmp 59) rfl w.heap.size P1 p1 (pre2 out ++ [id]) (out.length+1) (by simp [AU]) rfl hT2.fst _ rfl rfl (by simp [AU];omega) (by omega) ?_;intro P3 p3 w3 ho3 hp3;have hT3:=hT2.push1 ho3 hp3;have hb3:=hp3.below hb2 (by omega) (fun b hb=>(hT2.fst.block hb).1);have hz3:=hb3.size;clear c0 c1 hc hd;obtain ⟨c0,c1,hc,hd⟩:=C3 h1 ez0 ez1 hb3 hc0.out hd0.out))
       | (at_builtin;(refine Ap rfl (.tmp 61) (.tmp 69) rfl w.heap.size P2 p2 (post2 out ++ [n]) (out.length+1) (by simp [AH]) rfl hT3.snd _ rfl rfl (by simp [AH];omega) (by omega) ?_;intro P4 p4 w4 ho4 hp4;have hT4:=hT3.push2 ho4 hp4;have hb4:=hp4.below hb3 (by omega) (fun b hb=>(hT3.snd.block hb).1);have hz4:=hb4.size;clear c0 c1 hc hd;obtain ⟨c0,c1,hc,hd⟩:=C3 h1 ez0 ez1 hb4 hc0.out hd0.out)))
      go_roundw
      case rel=>exact ⟨k+1,P3,p3,P4,p4,out ++ [(id,n)] ++ [x],true,by omega,by go_num,hstep.out,by simp,by simp,rfl,by (try simp only [Cj,BZ]);exact hT4,hb4⟩
      case measure=>simp [intOf];omega
    ·
     have e1:decide (id≤x.1)=false:=by simpa using g1
     have e2:(x.1 != id)=true:=by rw [bne_iff_ne];omega
     rw [Hd id n out x g1] at hstep
     replace hstep:=Lib.hid hstep
     go_wp2_with (first
      | (at_builtin;(refine Ap rfl (.tmp 51) (.tmp 59) rfl w.heap.size P p (pre2 out) (out.length) (by simp [AU]) rfl hT.fst _ rfl rfl (by simp [AU];omega) (by omega) ?_;intro P3 p3 w3 ho3 hp3;have hT3:=hT.push1 ho3 hp3;have hb3:=hp3.below hb (by omega) (fun b hb=>(hT.fst.block hb).1);have hz3:=hb3.size;clear c0 c1 hc hd;obtain ⟨c0,c1,hc,hd⟩:=C3 h1 ez0 ez1 hb3 hc0.out hd0.out))
      | (at_builtin;(refine Ap rfl (.tmp 61) (.tmp 69) rfl w.heap.size Q q (post2 out) (out.length) (by simp [AH]) rfl hT3.snd _ rfl rfl (by simp [AH];omega) (by omega) ?_;intro P4 p4 w4 ho4 hp4;have hT4:=hT3.push2 ho4 hp4;have hb4:=hp4.below hb3 (by omega) (fun b hb=>(hT3.snd.block hb).1);have hz4:=hb4.size;clear c0 c1 hc hd;obtain ⟨c0,c1,hc,hd⟩:=C3 h1 ez0 ez1 hb4 hc0.out hd0.out)))
     go_roundw
     case rel=>exact ⟨k+1,P3,p3,P4,p4,out ++ [x],false,by omega,by go_num,hstep.out,by simp,by simp,rfl,by (try simp only [Cj,BZ]);exact hT4,hb4⟩
     case measure=>simp [intOf];omega
   ·
    by_cases g2:x.1=id
    ·
     have e2:(x.1 != id)=false:=by simpa using g2
     rw [Ge id n out x g2] at hstep
     replace hstep:=Lib.hid hstep
     replace g2:=Lib.hid g2
     go_wp2_with fail
     go_roundw
     case rel=>exact ⟨k+1,P,p,Q,q,out,true,by omega,by go_num,hstep.out,by simp,by simp,rfl,by (try simp only [Cj,BZ]);exact hT,hb⟩
     case measure=>simp [intOf];omega
    ·
     have e2:(x.1 != id)=true:=by simpa using g2
     rw [Gd id n out x g2] at hstep
     replace hstep:=Lib.hid hstep
     replace g2:=Lib.hid g2
     go_wp2_with (first
      | (at_builtin;(refine Ap rfl (.tmp 51) (.tmp 59) rfl w.heap.size P p (pre2 out) (out.length) (by simp [AU]) rfl hT.fst _ rfl rfl (by simp [AU];omega) (by omega) ?_;intro P3 p3 w3 ho3 hp3;have hT3:=hT.push1 ho3 hp3;have hb3:=hp3.below hb (by omega) (fun b hb=>(hT.fst.block hb).1);have hz3:=hb3.size;clear c0 c1 hc hd;obtain ⟨c0,c1,hc,hd⟩:=C3 h1 ez0 ez1 hb3 hc0.out hd0.out))
      | (at_builtin;(refine Ap rfl (.tmp 61) (.tmp 69) rfl w.heap.size Q q (post2 out) (out.length) (by simp [AH]) rfl hT3.snd _ rfl rfl (by simp [AH];omega) (by omega) ?_;intro P4 p4 w4 ho4 hp4;have hT4:=hT3.push2 ho4 hp4;have hb4:=hp4.below hb3 (by omega) (fun b hb=>(hT3.snd.block hb).1);have hz4:=hb4.size;clear c0 c1 hc hd;obtain ⟨c0,c1,hc,hd⟩:=C3 h1 ez0 ez1 hb4 hc0.out hd0.out)))
     go_roundw
     case rel=>exact ⟨k+1,P3,p3,P4,p4,out ++ [x],true,by omega,by go_num,hstep.out,by simp,by simp,rfl,by (try simp only [Cj,BZ]);exact hT4,hb4⟩
     case measure=>simp [intOf];omega
  ·
   obtain rfl:k=M.length:=by omega
   have hlti:¬ (M.length:Int)<(M.length:Int):=by omega
   rw [List.take_length] at hR
   have q0:=hB.frozen o
   have q1:=hB.frozen (o+1)
   cases bb
   ·
    have hfin:EI M id n=out ++ [(id,n)]:=by unfold EI;rw [hR];rfl
    replace hfin:=Lib.hid hfin
    clear hR hzb hR0 q0 q1
    go_wp2_with (first
     | (at_builtin;(refine Ap rfl (.tmp 73) (.tmp 75) rfl w.heap.size P p (pre2 out) (out.length) (by simp [AU]) rfl hT.fst _ rfl rfl (by simp [AU];omega) (by omega) ?_;intro P1 p1 w1 ho1 hp1;have hT1:=hT.push1 ho1 hp1;have hb1:=hp1.below hb (by omega) (fun b hb=>(hT.fst.block hb).1);have hz1:=hb1.size;clear c0 c1;have c0:=((h1.call hb1).cell o).trans ez0;have c1:=((h1.call hb1).cell (o+1)).trans ez1;skip))
     | (at_builtin;(refine Ap rfl (.tmp 77) (.tmp 79) rfl w.heap.size Q q (post2 out) (out.length) (by simp [AH]) rfl hT1.snd _ rfl rfl (by simp [AH];omega) (by omega) ?_;intro P2 p2 w2 ho2 hp2;have hT2:=hT1.push2 ho2 hp2;have hb2:=hp2.below hb1 (by omega) (fun b hb=>(hT1.snd.block hb).1);have hz2:=hb2.size;clear c0 c1;have c0:=((h1.call hb2).cell o).trans ez0;have c1:=((h1.call hb2).cell (o+1)).trans ez1;have q0:=(h1.call hb2).frozen o;have q1:=(h1.call hb2).frozen (o+1))))
    go_end0
    exact ⟨rfl,by rw [hfin.out];exact IR (out ++ [(id,n)]) (h1.call hb2) h1 (by rw [Cj,BZ];exact hT2) hglt (by simp),Mx (Chg.of_below hb2) _ _⟩
   ·
    have hfin:EI M id n=out:=by unfold EI;rw [hR];rfl
    replace hfin:=Lib.hid hfin
    clear hR hzb hR0
    go_wp2_with fail
    go_end0
    exact ⟨rfl,by rw [hfin.out];exact IR out (h1.call hb) h1 hT hglt rfl,Mx (Chg.of_below hb) _ _⟩
set_option maxHeartbeats 1000000 in
theorem Jj (g o:Nat) (M:LM) (id n:Int) (w:World) (h:IQ w g o M) (hs:AA M) (hp:lmPos M) (hl:M.length≤140000) (hn:-1099511627776≤n∧n≤1099511627776) :
  Calls Tryz.prog 105 #[.pointer (some ⟨g,o,none⟩),.int .i64 id,.int .i64 n] w fun e w'=>e=.returned (.tuple #[])∧KT w w' w.heap.size g o (lmAdd M id n)∧Chg (·=g) w w':=by
 have d1:decide (-1099511627776≤n)=true:=by simp;omega
 have d2:decide (n≤1099511627776)=true:=by simp;omega
 rw [← PN M id n hs (by omega)]
 obtain ⟨r1,r2⟩:=Jv hp id
 have G:=KU g o M id w h (by omega)
 generalize lmGet M id=v at *
 obtain ⟨x,hx⟩:∃ x,max 0 (min 1099511627776 (v+n))=x:=⟨_,rfl⟩
 rw [hx]
 have S:=Ji g o M id x w h hl
 replace G:=Lib.hid G
 replace S:=Lib.hid S
 have b1:-9223372036854775808≤v+n:=by omega
 have b2:v+n≤9223372036854775807:=by omega
 replace hx:=Lib.hid hx
 clear hn h
 go_enter Tryz.func105,Tryz.ntmps105
 go_wp2_with (go_at_call 180;with_reducible refine G.out.mono ?_;rintro e w1 ⟨rfl,rfl⟩)
 rw [hx.out]
 refine S.out.mono ?_
 rintro e w1 ⟨rfl,h1,h2⟩
 go_wp2_with fail
 go_end0
 exact ⟨rfl,h1,h2⟩
set_option maxRecDepth 140000 in
set_option maxHeartbeats 2000000 in
theorem IU (g o:Nat) (M:LM) (w:World) (h:IQ w g o M) (hp:lmPos M) (hl:M.length≤140000) :
  Calls Tryz.prog 60 #[.pointer (some ⟨g,o,none⟩)] w fun e w'=>e=.returned (.int .i64 (lmSum M))∧w=w':=by
 obtain ⟨t,cs,A,c,B,d,h1,ez0,ez1,h2,h3⟩:=h
 have c0:=(h1.cell o).trans ez0
 have c1:=(h1.cell (o+1)).trans ez1
 clear h1 h2
 go_enter Tryz.func60,Tryz.ntmps60
 go_wp2_with fail
 go_loop [3,4] (fun n i=>∃ k:Nat,k≤M.length∧i=.int .i64 (k:Nat)∧n=.int .i64 (lmSum (M.take k))) (fun _ i=>M.length - (intOf i).toNat)
 case atStart=>exact ⟨0,by omega,rfl,by simp [lmSum]⟩
 case round =>
  obtain ⟨k,hk,rfl,rfl⟩:=hrel
  by_cases hlt:k<M.length
  ·
   have hlti:(k:Int)<(M.length:Int):=by omega
   obtain ⟨ae,rfl,hbl2,hd⟩:=h3.int_at (i:=k) (by simpa using hlt)
   rw [I9] at hd
   obtain ⟨x,hx⟩:∃ x,M[k]?=some x:=⟨_,List.getElem?_eq_getElem hlt⟩
   have hst:=FM M k x hx
   have hbd:=IP M hp k hk
   have hbx:=hp x (List.mem_of_getElem? hx)
   have e:M.getD k (0,0)=x:=by simp [List.getD_eq_getElem?_getD,hx]
   rw [e] at hd
   obtain ⟨xi,xn⟩:=x
   dsimp only at *
   generalize lmSum (M.take k)=s at *
   obtain ⟨hb1,hb2⟩:=hbd
   obtain ⟨hb3,hb4⟩:=hbx
   replace hst:=Lib.hid hst
   replace e:=Lib.hid e
   replace hx:=Lib.hid hx
   clear h3
   go_wp2_with fail
   go_round
   case rel=>exact ⟨k+1,by omega,by go_num,by rw [hst.out]⟩
   case measure=>simp [intOf];omega
  ·
   obtain rfl:k=M.length:=by omega
   have hlti:¬ (M.length:Int)<(M.length:Int):=by omega
   rw [List.take_length]
   go_wp2_with fail
   go_ret
   exact ⟨rfl,rfl⟩
end Go.Proofs.YteklkljndchjiaaGreat
