/- load and its reference: bears, Less. the reference's loads: Get, set. the reference's loads: set and Add come to the same list. wheel: what a wheel is in memory; its small functions. wheel: a row without one number. backends; two and its reference: Draw. the reference's Draw; the closure that is the better one of two; folds. two: better, fold. two: Best, Pick. two: Pick; the .. -/
import Derived.Test.YteklkljndchjiaaGreatJ10
import Derived.Test.YteklkljndchjiaaGreatJ21
import Derived.Test.YteklkljndchjiaaGreatJ9
import Derived.Maps.OwnSet
import Derived.Deep.QuietTactic
import Derived.Laws.IdiomCopy
import Derived.Deep.RegionHeld3
import Derived.Test.YteklkljndchjiaaGreatJ3
import Derived.Test.YteklkljndchjiaaGreatJ14
namespace Go.Proofs.YteklkljndchjiaaGreat
open Go Go.RowKit Go.Deep
structure Two (w:World) (base:Nat) (A:Option Addr) (c:Nat) (L:List Int) (B:Option Addr) (d:Nat) (K:List Int):Prop where
 fst:OwnI w base A c L
 snd:OwnI w base B d K
 apart:∀ b,InB A b→¬ InB B b
section
variable {w w':World} {base:Nat} {A A' B B':Option Addr} {c d c' d':Nat} {L K:List Int} {v:Int}
theorem Two.push1 (h:Two w base A c L B d K) (ho:OwnI w' base A' c' (L ++ [v])) (hp:Pushed w w' A A'):Two w' base A' c' (L ++ [v]) B d K :=
 ⟨ho,h.snd.chg hp.chg fun b hb hA=>h.apart b hA hb,fun b hb hB=>by
  rcases hp.new b hb with h1 | h1
  · exact h.apart b h1 hB
  · have:=(h.snd.block hB).2;omega⟩
theorem Two.push2 (h:Two w base A c L B d K) (ho:OwnI w' base B' d' (K ++ [v])) (hp:Pushed w w' B B'):Two w' base A c L B' d' (K ++ [v]) :=
 ⟨h.fst.chg hp.chg fun b hb hB=>h.apart b hb hB,ho,fun b hb hB=>by
  rcases hp.new b hB with h1 | h1
  · exact h.apart b hb h1
  · have:=(h.fst.block hb).2;omega⟩
end
theorem JG {M:LM} {id:Int} {k:Nat} (h:∀ j,j<k→(M.getD j (0,0)).1≠id) (hk:k<M.length) (he:(M.getD k (0,0)).1=id):lmGet M id=(M.getD k (0,0)).2:=by
 unfold lmGet
 have:M.find? (fun x=>x.1==id)=some (M.getD k (0,0)):=by
  rw [List.find?_eq_some_iff_getElem]
  refine ⟨by simpa using he,k,hk,by simp [List.getD_eq_getElem?_getD,hk],fun j hj=>?_⟩
  have:=h j hj
  simp [List.getD_eq_getElem?_getD,show j<M.length by omega] at this
  simpa using this
 rw [this]
theorem Nk {M:LM} {id:Int} (h:∀ j,j<M.length→(M.getD j (0,0)).1≠id):lmGet M id=0:=by
 unfold lmGet
 have:M.find? (fun x=>x.1==id)=none:=by
  rw [List.find?_eq_none]
  intro x hx
  obtain ⟨j,hj,rfl⟩:=List.getElem_of_mem hx
  have:=h j hj
  simp [List.getD_eq_getElem?_getD,hj] at this
  simpa using this
 rw [this]
theorem LH (M:LM) (k:Nat):(M.map Prod.fst).getD k 0=(M.getD k (0,0)).1:=by
 simp [List.getD_eq_getElem?_getD,List.getElem?_map];cases M[k]? <;> rfl
theorem I9 (M:LM) (k:Nat):(M.map Prod.snd).getD k 0=(M.getD k (0,0)).2:=by
 simp [List.getD_eq_getElem?_getD,List.getElem?_map];cases M[k]? <;> rfl
def Bj (id n:Int) (st:LM × Bool) (x:Int × Int):LM × Bool :=
 let st1:=if !st.2 && decide (id≤x.1) then (st.1 ++ [(id,n)],true) else st
 if x.1=id then st1 else (st1.1 ++ [x],st1.2)
def E0 (M:LM) (id n:Int):LM × Bool:=M.foldl (Bj id n) ([],n==0)
def EI (M:LM) (id n:Int):LM:=if (E0 M id n).2 then (E0 M id n).1 else (E0 M id n).1 ++ [(id,n)]
theorem LJ (M:LM) (id n:Int) (k:Nat) (hk:k<M.length):E0 (M.take (k+1)) id n=Bj id n (E0 (M.take k) id n) (M.getD k (0,0)):=by
 unfold E0
 rw [List.take_succ_eq_append_getElem hk,List.foldl_append]
 simp [List.getD_eq_getElem?_getD,hk]
theorem LO (id n:Int) (st:LM × Bool) (x:Int × Int):(Bj id n st x).1.length≤st.1.length+2:=by
 unfold Bj
 dsimp only
 split <;> split <;> simp
theorem Ia (id n:Int):∀ (M:LM) (st:LM × Bool),(M.foldl (Bj id n) st).1.length≤st.1.length+2 * M.length
 | [],st=>by simp
 | x :: M,st=>by
  have h1:=Ia id n M (Bj id n st x)
  have h2:=LO id n st x
  simp only [List.foldl_cons,List.length_cons]
  omega
theorem Ib (id n:Int) (out:LM) (x:Int × Int) (h2:x.1=id):Bj id n (out,false) x=(out ++ [(id,n)],true):=by simp [Bj,h2]
theorem Gc (id n:Int) (out:LM) (x:Int × Int) (h:id≤x.1) (h2:x.1≠id):Bj id n (out,false) x=(out ++ [(id,n)] ++ [x],true):=by simp [Bj,h,h2]
theorem Hd (id n:Int) (out:LM) (x:Int × Int) (h:¬ id≤x.1):Bj id n (out,false) x=(out ++ [x],false):=by
 have:x.1≠id:=by omega
 simp [Bj,h,this]
theorem Gd (id n:Int) (out:LM) (x:Int × Int) (h2:x.1≠id):Bj id n (out,true) x=(out ++ [x],true):=by simp [Bj,h2]
theorem Ge (id n:Int) (out:LM) (x:Int × Int) (h2:x.1=id):Bj id n (out,true) x=(out,true):=by simp [Bj,h2]
def pre2 (L:LM):List Int:=L.map Prod.fst
def post2 (L:LM):List Int:=L.map Prod.snd
theorem Cj (L:LM) (x:Int × Int):pre2 (L ++ [x])=pre2 L ++ [x.1]:=by simp [pre2]
theorem BZ (L:LM) (x:Int × Int):post2 (L ++ [x])=post2 L ++ [x.2]:=by simp [post2]
theorem AU (L:LM):(pre2 L).length=L.length:=by simp [pre2]
theorem AH (L:LM):(post2 L).length=L.length:=by simp [post2]
def AA (M:LM):Prop:=M.Pairwise fun x y=>x.1<y.1
theorem CT (id n:Int):∀ (M out:LM),M.foldl (Bj id n) (out,true)=(out ++ lmDel M id,true)
 | [],out=>by simp [lmDel]
 | x :: M,out=>by
  rw [List.foldl_cons]
  by_cases h:x.1=id
  ·
   rw [Ge id n out x h,CT id n M out]
   simp [lmDel,h]
  ·
   rw [Gd id n out x h,CT id n M]
   simp [lmDel,h]
theorem PJ (id n:Int):∀ L:LM,(∀ y ∈ L,id<y.1)→lmIns (id,n) L=(id,n) :: L
 | [],_=>rfl
 | y :: L,h=>by unfold lmIns;rw [if_pos (h y (by simp))]
theorem He (id n:Int):∀ (M out:LM),AA M→(if (M.foldl (Bj id n) (out,false)).2 then (M.foldl (Bj id n) (out,false)).1 else (M.foldl (Bj id n) (out,false)).1 ++ [(id,n)])=out ++ lmIns (id,n) (lmDel M id)
 | [],out,_=>by simp [lmDel,lmIns]
 | x :: M,out,hs=>by
  obtain ⟨h1,h2⟩:=List.pairwise_cons.1 hs
  rw [List.foldl_cons]
  by_cases hlt:id≤x.1
  ·
   by_cases he:x.1=id
   ·
    rw [Ib id n out x he,CT]
    have:lmIns (id,n) (lmDel M id)=(id,n) :: lmDel M id:=PJ id n _ fun y hy=>by
     have:=h1 y (List.mem_filter.1 hy).1;omega
    simp only [if_true]
    rw [show lmDel (x :: M) id=lmDel M id by simp [lmDel,he],this]
    simp
   ·
    rw [Gc id n out x hlt he,CT]
    simp only [if_true]
    rw [show lmDel (x :: M) id=x :: lmDel M id by simp [lmDel,he]]
    unfold lmIns
    rw [if_pos (show id<x.1 by omega)]
    simp
  ·
   rw [Hd id n out x hlt,He id n M _ h2]
   rw [show lmDel (x :: M) id=x :: lmDel M id by
    have:¬ x.1=id:=by omega
    simp [lmDel,this]]
   rw [show lmIns (id,n) (x :: lmDel M id)=x :: lmIns (id,n) (lmDel M id) by
    show (if id<x.1 then _ else _)=_
    rw [if_neg (by omega)]]
   simp
theorem PM (M:LM) (id n:Int) (h:AA M):EI M id n=if n=0 then lmDel M id else lmPut M id n:=by
 unfold EI E0
 by_cases hn:n=0
 ·
  subst hn
  rw [show ((0:Int)==0)=true from rfl,CT]
  simp
 ·
  rw [show (n==0)=false by simpa using hn,He id n M [] h,if_neg hn]
  simp [lmPut]
theorem Dg {M:LM} (h:AA M) (id:Int):AA (lmDel M id):=List.Pairwise.filter _ h
theorem Gf {id n:Int}:∀ {L:LM},AA L→(∀ y ∈ L,y.1≠id)→AA (lmIns (id,n) L)
 | [],_,_=>by simp [AA,lmIns]
 | y :: L,hs,hne=>by
  obtain ⟨h1,h2⟩:=List.pairwise_cons.1 hs
  unfold lmIns
  by_cases h:id<y.1
  ·
   rw [if_pos h]
   exact List.pairwise_cons.2 ⟨fun z hz=>by
    rcases List.mem_cons.1 hz with rfl | hz
    · exact h
    · have:=h1 z hz;show id<z.1;omega,hs⟩
  ·
   rw [if_neg h]
   have hy:=hne y (by simp)
   refine List.pairwise_cons.2 ⟨fun z hz=>?_,Gf h2 fun z hz=>hne z (by simp [hz])⟩
   rcases ET hz with rfl | hz
   · show y.1<id;omega
   · exact h1 z hz
theorem Gg {M:LM} (h:AA M) (id v:Int):AA (lmPut M id v):=Gf (Dg h id) fun y hy=>by simpa using (List.mem_filter.1 hy).2
theorem Gh {M:LM} (h:AA M) (id n:Int):AA (lmAdd M id n):=by
 unfold lmAdd
 split
 · exact h
 ·
  split
  · exact Dg h id
  · exact Gg h id _
theorem PN (M:LM) (id n:Int) (h:AA M) (hn:¬ (n< -1099511627776∨1099511627776<n)):EI M id (max 0 (min 1099511627776 (lmGet M id+n)))=lmAdd M id n:=by
 unfold lmAdd
 rw [PM M id _ h,if_neg hn]
 by_cases hz:min 1099511627776 (lmGet M id+n)≤0
 · rw [if_pos (by omega),if_pos hz]
 · rw [if_neg (by omega),if_neg hz,show max 0 (min 1099511627776 (lmGet M id+n))=min 1099511627776 (lmGet M id+n) by omega]
end Go.Proofs.YteklkljndchjiaaGreat
namespace Go.Proofs.YteklkljndchjiaaGreat
open Go Go.RowKit Go.Deep Go.Maps Go.ChangeMaps
def lmHas (M:LM) (id:Int):Bool:=M.any fun x=>x.1==id
theorem lm_has (M:LM) (id:Int):Maps.has (lmD M) (ilit id)=lmHas M id:=by
 show (lmE M).any (fun p=>p.1.sameKey (ilit id))=_
 unfold lmE lmHas
 rw [List.any_map]
 congr 1
 funext x
 exact GF _ _
theorem Imap.look2 {w:World} {b:Nat} {M:LM} (h:Imap w b M) {id:Int} (hk:(Lit.int .i64 id).wf=true) :
  (Instr.lookup 161 (.map (some b)) (.int .i64 id) true).run Tryz.prog w=.ok (.tuple #[.int .i64 (lmGet M id),.bool (lmHas M id)]) w:=by
 obtain ⟨v,ps,hrun,hat⟩:=World.ownsMap.look_ok h DI Tryz.underlying161 (Ll w) (plainElem_int Tryz.underlying3 (by decide)) (DJ hk)
 obtain ⟨c,rfl,hc,_⟩:=plainElem_int_inv Tryz.underlying3 hat
 simp only [Prod.mk.injEq] at hc
 have:=(lm_at M id).symm.trans hc.1
 simp [ilit] at this
 rw [hrun,this,lm_has]
structure WhAt (w:World) (base g bm:Nat) (G now:Int) (M:LM) (R:Nat→List Int) (A:Nat→Option Addr) (C:Nat→Nat) (T:Nat→Int) (Z:Array Value):Prop where
 blk:Blk w g 212 Z
 size:Z.size=4163
 z0:Z[0]?=some (.int .i64 G)
 z1:Z[1]?=some (.int .i64 now)
 z2:Z[2]?=some (.map (some bm))
 row:∀ k,k<64→Z[3+k]?=some (.slice (A k) (R k).length (C k))
 own:∀ k,k<64→OwnI w base (A k) (C k) (R k)
 apart:∀ k j,k<64→j<64→k≠j→∀ b,InB (A k) b→¬ InB (A j) b
 at_:∀ i,i<4096→Z[67+i]?=some (.int .i32 (T i))
 map:Imap w bm M
 gb:base≤g
 mb:base≤bm
section
variable {w w':World} {base g bm:Nat} {G now:Int} {M:LM} {R:Nat→List Int} {A:Nat→Option Addr} {C:Nat→Nat} {T:Nat→Int} {Z:Array Value}
theorem WhAt.call (h:WhAt w base g bm G now M R A C T Z) (hb:Below w.heap.size w w'):WhAt w' base g bm G now M R A C T Z :=
 ⟨h.blk.call hb,h.size,h.z0,h.z1,h.z2,h.row,fun k hk=>(h.own k hk).call hb,h.apart,h.at_,h.map.call hb,h.gb,h.mb⟩
theorem WhAt.cell (h:WhAt w base g bm G now M R A C T Z) {i:Nat} {v:Value} (hz:Z[i]?=some v):w.cell? ⟨g,i,none⟩=some v:=(h.blk.cell i).trans hz
def whF (g bm:Nat) (A:Nat→Option Addr) (b:Nat):Prop:=b=g∨b=bm∨∃ k,k<64∧InB (A k) b
theorem WhAt.chg {F:Nat→Prop} (h:WhAt w base g bm G now M R A C T Z) (k:Chg F w w') (hF:∀ b,F b→¬ whF g bm A b):WhAt w' base g bm G now M R A C T Z :=
 ⟨h.blk.chg k (fun e=>hF _ e (.inl rfl)),h.size,h.z0,h.z1,h.z2,h.row,fun j hj=>(h.own j hj).chg k (fun b hb e=>hF b e (.inr (.inr ⟨j,hj,hb⟩))),h.apart,h.at_,h.map.chg k (fun e=>hF _ e (.inr (.inl rfl))),h.gb,h.mb⟩
theorem WhAt.whF_lt (h:WhAt w base g bm G now M R A C T Z) {b:Nat} (hb:whF g bm A b):base≤b∧b<w.heap.size:=by
 rcases hb with rfl | rfl | ⟨k,hk,hb⟩
 · exact ⟨h.gb,h.blk.lt⟩
 · exact ⟨h.mb,h.map.lt⟩
 · exact (h.own k hk).block hb
theorem WhAt.below_of (h:WhAt w base g bm G now M R A C T Z) (k:Chg (whF g bm A) w w'):Below base w w' :=
 k.below (fun b hb e=>by have:=(h.whF_lt e).1;omega) (by have:=h.gb;have:=h.blk.lt;omega)
theorem CU (h:WhAt w base g bm G now M R A C T Z) (hG:0<G):Calls Tryz.prog 231 #[.pointer (some ⟨g,0,none⟩)] w fun e w'=>e=.returned (.bool true)∧w=w':=by
 have c0:=h.cell h.z0
 have hd:decide (0<G)=true:=by simpa using hG
 clear h
 go_enter Tryz.func231,Tryz.ntmps231
 go_wp2_with fail
 go_ret
 exact ⟨by first | rfl | simp [hd],rfl⟩
def turnI (G due:Int):Int:=(due+G - 1) / G
theorem Er (h:WhAt w base g bm G now M R A C T Z) (hG:1≤G∧G≤1024) (due:Int) (hd:0≤due∧due≤2199023255552):Calls Tryz.prog 237 #[.pointer (some ⟨g,0,none⟩),.int .i64 due] w fun e w'=>e=.returned (.int .i64 (turnI G due))∧∃ n,w'=w.drewN n:=by
 have c0:=h.cell h.z0
 have hq:(due+G - 1) / G=turnI G due:=rfl
 have hz:(G==0)=false:=by rw [beq_eq_false_iff_ne];omega
 generalize turnI G due=r at *
 replace hq:=Lib.hid hq
 clear h
 go_enter Tryz.func237,Tryz.ntmps237
 go_wp2_with fail
 go_quiet (fail)
 go_wp2_with fail
 go_ret
 exact ⟨by rw [← hq.out];rfl,_,rfl⟩
theorem PP (h:WhAt w base g bm G now M R A C T Z) (hG:0<G):Calls Tryz.prog 215 #[.pointer (some ⟨g,0,none⟩)] w fun e w'=>e=.returned (.int .i64 now)∧w=w':=by
 have GV:=Lib.hid (CU h hG)
 have c1:=h.cell h.z1
 clear h
 go_enter Tryz.func215,Tryz.ntmps215
 go_wp2_with fail
 refine GV.out.mono ?_
 rintro e w1 ⟨rfl,rfl⟩
 go_wp2_with fail
 go_ret
 exact ⟨rfl,rfl⟩
theorem JH (h:WhAt w base g bm G now M R A C T Z) (hG:0<G) (id:Int) (hk:(Lit.int .i64 id).wf=true):Calls Tryz.prog 270 #[.pointer (some ⟨g,0,none⟩),.int .i64 id] w fun e w'=>e=.returned (.tuple #[.int .i64 (lmGet M id),.bool (lmHas M id)])∧w=w':=by
 have GV:=Lib.hid (CU h hG)
 have c2:=h.cell h.z2
 have hl:=h.map.look2 hk
 clear h
 go_enter Tryz.func270,Tryz.ntmps270
 go_wp2_with fail
 refine GV.out.mono ?_
 rintro e w1 ⟨rfl,rfl⟩
 go_wp2_with fail
 go_ret2
 exact ⟨rfl,rfl⟩
def rowI (G now due:Int):Int:=(max (turnI G due) (now / G)) % 64
set_option maxHeartbeats 2000000 in
theorem PQ (h:WhAt w base g bm G now M R A C T Z) (hG:1≤G∧G≤1024) (hn:0≤now∧now≤2199023255552) (due:Int) (hd:0≤due∧due≤2199023255552):Calls Tryz.prog 261 #[.pointer (some ⟨g,0,none⟩),.int .i64 due] w fun e w'=>e=.returned (.int .i64 (rowI G now due))∧∃ n,w'=w.drewN n:=by
 have TU:=fun n=>Er (w:=w.drewN n) ⟨h.blk,h.size,h.z0,h.z1,h.z2,h.row,h.own,h.apart,h.at_,h.map,h.gb,h.mb⟩ hG due hd
 have c0:=h.cell h.z0
 have c1:=h.cell h.z1
 have hz:(G==0)=false:=by rw [beq_eq_false_iff_ne];omega
 obtain ⟨r,hr⟩:∃ r,rowI G now due=r:=⟨_,rfl⟩
 have htm:(max (turnI G due) (now / G)).tmod 64=rowI G now due:=by
  have h1:0≤now / G:=Int.ediv_nonneg (by omega) (by omega)
  exact Int.tmod_eq_emod_of_nonneg (by omega)
 rw [hr] at htm ⊢
 clear hr
 generalize turnI G due=t at *
 have C0:∀ n,(w.drewN n).cell? ⟨g,0,none⟩=some (.int .i64 G):=fun n=>c0
 have C1:∀ n,(w.drewN n).cell? ⟨g,1,none⟩=some (.int .i64 now):=fun n=>c1
 replace TU:=Lib.hid TU
 replace htm:=Lib.hid htm
 clear h
 go_enter Tryz.func261,Tryz.ntmps261
 go_wp2_with fail
 go_quiet ((go_at_call 237;with_reducible exact Calls.quiet_of (TU.out _)))
 go_wp2_with fail
 go_ret
 exact ⟨by rw [← htm.out];rfl,_,rfl⟩
end
theorem Ja (G:Int) (w:World) (h:G<1∨1024<G):Calls Tryz.prog 78 #[.int .i64 G] w fun e w'=>e=.returned (.pointer none)∧w=w':=by
 by_cases h1:G<1
 ·
  have d1:decide (G<1)=true:=by simpa using h1
  clear h
  go_enter Tryz.func78,Tryz.ntmps78
  go_wp2_with fail
  go_ret
  exact ⟨rfl,rfl⟩
 ·
  have d1:decide (G<1)=false:=by simpa using h1
  have d2:decide (1024<G)=true:=by simp;omega
  clear h
  go_enter Tryz.func78,Tryz.ntmps78
  go_wp2_with fail
  go_ret
  exact ⟨rfl,rfl⟩
theorem whZ (G:Int) (bm:Nat) (Z:Array Value) (hZ:Z=(wzL.toArray.setIfInBounds 0 (.int .i64 G)).setIfInBounds 2 (.map (some bm))) :
  Z.size=4163∧Z[0]?=some (.int .i64 G)∧Z[1]?=some (.int .i64 0)∧Z[2]?=some (.map (some bm))∧(∀ k,k<64→Z[3+k]?=some (.slice none 0 0))∧∀ i,i<4096→Z[67+i]?=some (.int .i32 0):=by
 have hs:wzL.toArray.size=4163:=by rw [List.size_toArray];exact Ox
 have hz1:wzL.toArray[1]?=some (.int .i64 0):=by
  rw [List.getElem?_toArray]
  unfold wzL
  rw [List.getElem?_cons_succ,List.getElem?_cons_zero]
 have hr:∀ k,k<64→wzL.toArray[3+k]?=some (.slice none 0 0):=fun k hk=>by rw [List.getElem?_toArray];exact Sf hk
 have ha:∀ i,i<4096→wzL.toArray[67+i]?=some (.int .i32 0):=fun i hi=>by rw [List.getElem?_toArray];exact wzL_at hi
 generalize wzL.toArray=Y at *
 subst hZ
 refine ⟨by simp [hs],?_,?_,?_,fun k hk=>?_,fun i hi=>?_⟩
 · rw [Array.getElem?_setIfInBounds_ne (by omega),Array.getElem?_setIfInBounds_self_of_lt (by omega)]
 ·
  rw [Array.getElem?_setIfInBounds_ne (by omega),Array.getElem?_setIfInBounds_ne (by omega)]
  exact hz1
 · rw [Array.getElem?_setIfInBounds_self_of_lt (by simp [hs])]
 ·
  rw [Array.getElem?_setIfInBounds_ne (by omega),Array.getElem?_setIfInBounds_ne (by omega)]
  exact hr k hk
 ·
  rw [Array.getElem?_setIfInBounds_ne (by omega),Array.getElem?_setIfInBounds_ne (by omega)]
  exact ha i hi
theorem Fz {w:World} {ops:Array Oper} {rest:List Oper} {o:Oper} {a:Act} {Q:Exit→Act→World→Prop} {Z:Array Value} {G:Int} {bm:Nat}
  (hg:o.guard=none) (x y:Operand) (hop:o.op=Op.build 212 #[(0,x),(2,y)]) (hx:a.eval x=.int .i64 G) (hy:a.eval y=.map (some bm)) (hZ:Z=(wzL.toArray.setIfInBounds 0 (.int .i64 G)).setIfInBounds 2 (.map (some bm)))
  (hK:wpList Tryz.prog ops Q rest (a.put o.dst (.agg Z)) w):wpList Tryz.prog ops Q (o :: rest) a w:=by
 refine wpList_plain hg fun K' hK'=>?_
 have hrun:=Hr G bm w
 rw [← hZ] at hrun
 have he:(execOp a.eval o).run Tryz.prog w=.ok (.value (.agg Z)) w:=by
  unfold execOp
  rw [hop]
  dsimp only
  simp only [Sem.run_bind,List.map_toArray,List.map_cons,List.map_nil,hx,hy,hrun,Result.andThen_ok,Sem.run_pure]
 unfold Oper.wp
 rw [he]
 exact hK' _ _ hK
theorem PR (G:Int) (w:World) (h:1≤G∧G≤1024):Calls Tryz.prog 78 #[.int .i64 G] w fun e w'=>∃ g bm Z,e=.returned (.pointer (some ⟨g,0,none⟩))∧WhAt w' w.heap.size g bm G 0 [] (fun _=>[]) (fun _=>none) (fun _=>0) (fun _=>0) Z∧Below w.heap.size w w':=by
 have d1:decide (G<1)=false:=by simp;omega
 have d2:decide (1024<G)=false:=by simp;omega
 have hmm:=@run_makeMap Tryz.prog
 obtain ⟨Z,hZ⟩:∃ Z,Z=(wzL.toArray.setIfInBounds 0 (.int .i64 G)).setIfInBounds 2 (.map (some w.heap.size)):=⟨_,rfl⟩
 obtain ⟨e1,e2,e3,e4,e5,e6⟩:=whZ G w.heap.size Z hZ
 have hb:Below w.heap.size w ((w.alloc (.map #[] 0)).alloc (.cells Z 212)):=Aa (Aa (Below.refl _ _) _) _
 have hB:Blk ((w.alloc (.map #[] 0)).alloc (.cells Z 212)) (w.heap.size+1) 212 Z:=by
  have:=Blk.new (w.alloc (.map #[] 0)) 212 Z
  rwa [World.size_alloc] at this
 have hM:Imap ((w.alloc (.map #[] 0)).alloc (.cells Z 212)) w.heap.size []:=by
  have h0:Imap (w.alloc (.map #[] 0)) w.heap.size []:=Imap.of (World.ownsMap_made w _ _ _)
  exact h0.call (Aa (Below.refl _ _) _)
 replace hZ:=Lib.hid hZ
 go_enter Tryz.func78,Tryz.ntmps78
 go_wp2_with (refine Fz rfl _ _ rfl rfl rfl hZ.out ?_)
 go_ret
 exact ⟨w.heap.size+1,w.heap.size,Z,rfl,⟨hB,e1,e2,e3,e4,e5,fun k _=>OwnA.nil _ _,(fun k j _ _ _ b hi=>by obtain ⟨a,ha,_⟩:=hi;cases ha),e6,hM,by omega,Nat.le_refl _⟩,hb⟩
def setM (cs:Array Value):Nat→List Value→Array Value
 | _,[]=>cs
 | o,v :: r=>setM (cs.setIfInBounds o v) (o+1) r
theorem JI:∀ (vs:List Value) (cs:Array Value) (o:Nat),(setM cs o vs).size=cs.size
 | [],_,_=>rfl
 | v :: r,cs,o=>by
  unfold setM
  rw [JI r,Array.size_setIfInBounds]
theorem LQ:∀ (vs:List Value) (cs:Array Value) (o j:Nat),j<o→(setM cs o vs)[j]?=cs[j]?
 | [],_,_,_,_=>rfl
 | v :: r,cs,o,j,h=>by
  unfold setM
  rw [LQ r _ (o+1) j (by omega),Array.getElem?_setIfInBounds_ne (by omega)]
theorem OJ:∀ (vs:List Value) (cs:Array Value) (o j:Nat),o+vs.length≤cs.size→j<vs.length→(setM cs o vs)[o+j]?=vs[j]?
 | v :: r,cs,o,0,h,_=>by
  simp at h
  unfold setM
  rw [LQ r _ (o+1) (o+0) (by omega),Nat.add_zero,Array.getElem?_setIfInBounds_self_of_lt (by omega)]
  rfl
 | v :: r,cs,o,j+1,h,hj=>by
  simp at h hj
  unfold setM
  rw [show o+(j+1)=(o+1)+j by omega,OJ r _ (o+1) j (by rw [Array.size_setIfInBounds];omega) hj]
  rfl
theorem Gi {b:Nat} {t:TypeId}:∀ (vs:List Value) (o:Nat) {w:World} {cs:Array Value},Blk w b t cs→Blk (w.setCells b o vs) b t (setM cs o vs)
 | [],_,_,_,h=>h
 | v :: r,o,_,_,h=>Gi r (o+1) (h.set_ o v)
theorem Gj {b:Nat}:∀ (vs:List Value) (o:Nat) (w:World),Chg (·=b) w (w.setCells b o vs)
 | [],_,w=>Chg.refl _ w
 | v :: r,o,w=>by
  have h1:Chg (·=b) w (w.setCell ⟨b,o,none⟩ v):=Chg.setCell (F:=(·=b)) (p:=⟨b,o,none⟩) (Chg.refl _ w) (fun _=>rfl) v
  exact h1.trans (Gj r (o+1) _) (fun _ _ h=>h)
theorem PS {w:World} {base g cap:Nat} {L:List Int} (h:OwnI w base (some ⟨g,0,none⟩) cap L) {i:Nat} (hi:i<L.length) :
  OwnI (w.setCells g 0 ((L.take i ++ L.drop (i+1) ++ List.replicate 1 0).map (Value.int .i64))) base (some ⟨g,0,none⟩) cap (L.eraseIdx i):=by
 rw [List.eraseIdx_eq_take_drop_succ]
 unfold OwnI OwnA at h ⊢
 obtain ⟨_,h2⟩:=h
 rcases h2 with ⟨h2,_⟩ | ⟨g',cap',cur,hv,hb,hh,hc,hm,hs,hx⟩
 · cases h2
 ·
  simp only [Value.slice.injEq,Option.some.injEq,Addr.mk.injEq,and_true,true_and] at hv
  obtain ⟨rfl,rfl⟩:=hv
  have hlen:(L.take i ++ L.drop (i+1)).length=L.length - 1:=by
   rw [List.length_append,List.length_take,List.length_drop]
   omega
  obtain ⟨E,hE⟩:∃ E,L.take i ++ L.drop (i+1)=E:=⟨_,rfl⟩
  rw [hE] at hlen ⊢
  have hB:Blk w g 3 cur:=hh
  have hB2:=Gi ((E ++ List.replicate 1 0).map (Value.int .i64)) 0 hB
  refine ⟨by rw [Dk,List.length_map,Nat.mul_one],.inr ⟨g,cap,_,rfl,hb,hB2,by omega,hm,by rw [JI];exact hs,?_⟩⟩
  rw [Dk]
  apply List.ext_getElem?
  intro j
  rw [List.getElem?_take]
  by_cases hj:j<E.length * 1
  ·
   rw [if_pos hj]
   have hvl:((E ++ List.replicate 1 0).map (Value.int .i64)).length=E.length+1:=by simp
   have:=OJ ((E ++ List.replicate 1 0).map (Value.int .i64)) cur 0 j (by rw [hvl];omega) (by rw [hvl];omega)
   rw [Nat.zero_add] at this
   rw [Array.getElem?_toList,this,List.getElem?_map,List.getElem?_map,List.getElem?_append_left (by omega)]
  ·
   rw [if_neg hj,List.getElem?_eq_none]
   rw [List.length_map]
   omega
end Go.Proofs.YteklkljndchjiaaGreat
namespace Go.Proofs.YteklkljndchjiaaGreat
open Go Go.RowKit Go.Deep
structure Bk where
 id:Int
 w:Int
 st:Int
 v:Bool
 hi:Int
 lo:Int
theorem Reads.intk_at {w:World} {B:Nat} {A:Option Addr} {xs:List Int} {k:IntKind} {i:Nat} (h:Reads w B 1 A xs.length (xs.map (.int k))) (hi:i<xs.length):∃ ad,A=some ad∧ad.block<B∧w.cell? (ad.add i)=some (.int k (xs.getD i 0)):=h.int_at hi
end Go.Proofs.YteklkljndchjiaaGreat
namespace Go.Proofs.YteklkljndchjiaaGreat
open Go Go.RowKit Go.Deep Go.ChangeShapes Go.WideShapes
structure Stp where
 kind:Int
 id:Int
 n:Int
structure Pk where
 kd:Int
 sec:Bool
 tu:Tup
 a:Nat
 b:Nat
 pk:Int
 ps:Int
@[reducible] def tupFTp:FT:=.pair (.int .i64) (.pair adrFT (.pair adrFT (.pair (.int .i64) (.pair (.int .i64) .unit))))
def tupOfp (x:tupFTp.Val):Tup:=⟨x.1,x.2.1.1,x.2.1.2.1.toNat,x.2.1.2.2.1.toNat,x.2.2.1.1,x.2.2.1.2.1.toNat,x.2.2.1.2.2.1.toNat,x.2.2.2.1,x.2.2.2.2.1⟩
section
variable {H:Type} {enc:TypeId × Value→H}
theorem PT {P:Program} {t:TypeId} {v:Value} {w:World} {d:DataW H} {p:List MemPlace} (ft:FT) (hfit:fitsT P 24 t ft=true)
  (h:DataW.Trod enc P w 0 (fun _=>true) true t v d p):∃ x:ft.Val,Rep w ft x v.cells.toList:=by
 obtain ⟨fuel,hf⟩:=h
 exact CP 0 _ _ 24 t ft hfit fuel _ _ hf
end
structure TStp where
 kd:Int
 tu:Tup
 sl:Int
 n:Int
 bk:Int
 low:Int
 bt:Int
end Go.Proofs.YteklkljndchjiaaGreat
namespace Go.Proofs.YteklkljndchjiaaGreat
open Go Go.RowKit Go.Deep
end Go.Proofs.YteklkljndchjiaaGreat
