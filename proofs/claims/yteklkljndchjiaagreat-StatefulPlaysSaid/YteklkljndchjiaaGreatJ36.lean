/- table: the document's list of live entries, in plain words. table: the document's table in memory: look, At. table: the document's put. table: the document's put, walked. table: the document's table goes on; its parts and how they are put back; gone. table: the document's gone. table: the document's table as the code's own state tells it; Close. table: the document's Touch. table: .. -/
import Derived.Test.YteklkljndchjiaaGreatJ34
import Derived.Test.YteklkljndchjiaaGreatJ35
import Derived.Deep.MidRow
import Derived.Deep.CutRange
import Derived.StillTailTactics
import Derived.Deep.RegionHeld3
import Derived.Deep.CutBlock
import Derived.Laws.StructEq
namespace Go.Proofs.YteklkljndchjiaaGreat
open Go Go.RowKit Go.Deep Go.Maps Go.ChangeMaps
def putL (L:List Slt) (x:Slt):List Slt:=L.filter (fun y=>decide (y.sl<x.sl)) ++ x :: L.filter (fun y=>decide (x.sl<y.sl))
def delL (L:List Slt) (i:Int):List Slt:=L.filter fun y=>!(y.sl==i)
def liveE (E:Nat→Slt) (n:Nat):List Slt:=Aq E (allL E (fun _=>true) n)
section
variable {E:Nat→Slt} {n:Nat} {s:TSt}
theorem Bz (E:Nat→Slt) (m:Nat):liveE E (m+1)=if (E m).used=true then liveE E m ++ [E m] else liveE E m:=by
 unfold liveE Aq
 rw [F5,Bool.and_true]
 split
 ·
  rw [List.map_append]
  rfl
 · rfl
theorem GL (m:Nat) (h:∀ k,k<m→(E k).sl=k) {y:Slt} (hy:y ∈ liveE E m):0≤y.sl∧y.sl<m∧y.used=true∧E y.sl.toNat=y:=by
 unfold liveE Aq at hy
 obtain ⟨k,hk,rfl⟩:=List.mem_map.1 hy
 have h1:=Hw hk
 unfold allL at hk
 have h2:=(List.mem_filter.1 hk).2
 rw [Bool.and_true] at h2
 rw [h k h1]
 exact ⟨by omega,by omega,h2,by rw [Int.toNat_natCast]⟩
theorem Dh:∀ (m:Nat),(∀ k,k<m→(E k).sl=k)→(liveE E m).Pairwise fun x y=>x.sl<y.sl
 | 0,_=>List.Pairwise.nil
 | m+1,h=>by
  rw [Bz]
  have ih:=Dh m fun k hk=>h k (by omega)
  split
  ·
   refine List.pairwise_append.2 ⟨ih,by simp,fun x hx y hy=>?_⟩
   rw [List.mem_singleton] at hy
   subst hy
   rw [h m (by omega)]
   exact (GL m (fun k hk=>h k (by omega)) hx).2.1
  · exact ih
theorem JM {i:Nat} {x:Slt} (hx:x.used=true) (hs:x.sl=i):∀ (m:Nat),(∀ k,k<m→(E k).sl=k)→liveE (updE E i x) m=if i<m then putL (liveE E m) x else liveE E m
 | 0,_=>by rw [if_neg (by omega)];rfl
 | m+1,h=>by
  have ih:=JM (i:=i) hx hs m fun k hk=>h k (by omega)
  rw [Bz,ih]
  rcases Nat.lt_trichotomy m i with hm | rfl | hm
  · rw [if_neg (show ¬ i<m by omega),if_neg (show ¬ i<m+1 by omega),AP E x (show m≠i by omega),Bz]
  ·
   rw [if_neg (show ¬ m<m by omega),if_pos (show m<m+1 by omega),Ad,if_pos hx]
   have h1:∀ y ∈ liveE E m,y.sl<x.sl:=fun y hy=>by rw [hs];exact (GL m (fun k hk=>h k (by omega)) hy).2.1
   have h2:(liveE E m).filter (fun y=>decide (y.sl<x.sl))=liveE E m:=List.filter_eq_self.2 fun y hy=>by simpa using h1 y hy
   have h3:(liveE E m).filter (fun y=>decide (x.sl<y.sl))=[]:=List.filter_eq_nil_iff.2 fun y hy=>by have:=h1 y hy;simp;omega
   have h4:=h m (by omega)
   unfold putL
   rw [Bz]
   split
   ·
    rw [List.filter_append,List.filter_append,h2,h3,List.filter_cons_of_neg (by simp;omega),List.filter_cons_of_neg (by simp;omega)]
    simp
   · rw [h2,h3]
  ·
   have h4:=h m (by omega)
   rw [if_pos hm,if_pos (show i<m+1 by omega),AP E x (show m≠i by omega),Bz]
   split
   ·
    unfold putL
    rw [List.filter_append,List.filter_append,List.filter_cons_of_neg (by simp;omega),List.filter_cons_of_pos (by simp;omega)]
    simp
   · rfl
theorem JN {i:Nat} {x:Slt} (hx:x.used=false):∀ (m:Nat),(∀ k,k<m→(E k).sl=k)→liveE (updE E i x) m=delL (liveE E m) i
 | 0,_=>rfl
 | m+1,h=>by
  have ih:=JN (i:=i) hx m fun k hk=>h k (by omega)
  have h4:=h m (by omega)
  rw [Bz,ih,Bz]
  by_cases e:m=i
  ·
   subst e
   rw [Ad,if_neg (by rw [hx];decide)]
   unfold delL
   split
   ·
    rw [List.filter_append,List.filter_cons_of_neg (by simp [h4])]
    simp
   · rfl
  ·
   rw [AP E x e]
   unfold delL
   split
   ·
    rw [List.filter_append,List.filter_cons_of_pos (by simp [h4];omega)]
    rfl
   · rfl
theorem Sz {L:List Slt} (hL:L.Pairwise fun x y=>x.sl<y.sl) (x:Slt) (k:Nat) (hk:k≤L.length) (h1:∀ j (hj:j<L.length),j<k→L[j].sl<x.sl) (h2:∀ h:k<L.length,x.sl≤L[k].sl) :
  putL L x=L.take k ++ x :: L.drop (if ∃ h:k<L.length,L[k].sl=x.sl then k+1 else k):=by
 have e:=List.take_append_drop k L
 have a1:∀ y ∈ L.take k,y.sl<x.sl:=fun y hy=>by
  obtain ⟨j,hj,rfl⟩:=List.mem_iff_getElem.1 hy
  rw [List.length_take] at hj
  rw [List.getElem_take]
  exact h1 j (by omega) (by omega)
 have f1:(L.take k).filter (fun y=>decide (y.sl<x.sl))=L.take k:=List.filter_eq_self.2 fun y hy=>by simpa using a1 y hy
 have f2:(L.take k).filter (fun y=>decide (x.sl<y.sl))=[]:=List.filter_eq_nil_iff.2 fun y hy=>by have:=a1 y hy;simp;omega
 have fA:L.filter (fun y=>decide (y.sl<x.sl))=(L.take k).filter (fun y=>decide (y.sl<x.sl)) ++ (L.drop k).filter (fun y=>decide (y.sl<x.sl)):=by rw [← List.filter_append,e]
 have fB:L.filter (fun y=>decide (x.sl<y.sl))=(L.take k).filter (fun y=>decide (x.sl<y.sl)) ++ (L.drop k).filter (fun y=>decide (x.sl<y.sl)):=by rw [← List.filter_append,e]
 unfold putL
 rw [fA,fB,f1,f2]
 by_cases hlt:k<L.length
 ·
  have hd:L.drop k=L[k] :: L.drop (k+1):=List.drop_eq_getElem_cons hlt
  have hge:=h2 hlt
  have hp:∀ y ∈ L.drop (k+1),L[k].sl<y.sl:=by
   have hq:(L.drop k).Pairwise fun x y=>x.sl<y.sl:=hL.sublist (List.drop_sublist _ _)
   rw [hd] at hq
   exact (List.pairwise_cons.1 hq).1
  have f3:(L.drop (k+1)).filter (fun y=>decide (y.sl<x.sl))=[]:=List.filter_eq_nil_iff.2 fun y hy=>by have:=hp y hy;simp;omega
  have f4:(L.drop (k+1)).filter (fun y=>decide (x.sl<y.sl))=L.drop (k+1):=List.filter_eq_self.2 fun y hy=>by have:=hp y hy;simp;omega
  by_cases he:L[k].sl=x.sl
  ·
   rw [if_pos ⟨hlt,he⟩,hd,List.filter_cons_of_neg (by simp;omega),List.filter_cons_of_neg (by simp;omega),f3,f4]
   simp
  ·
   rw [if_neg (fun h=>he h.2),hd,List.filter_cons_of_neg (by simp;omega),List.filter_cons_of_pos (by simp;omega),f3,f4]
   simp
 ·
  have hd:L.drop k=[]:=List.drop_eq_nil_iff.2 (by omega)
  rw [if_neg (fun h=>hlt h.1),hd]
  simp
theorem Iy (h:∀ k,k<n→(E k).sl=k) {i:Nat} (hi:i<n) (hu:(E i).used=true):∃ j,∃ hj:j<(liveE E n).length,(liveE E n)[j]=E i∧∀ k (hk:k<(liveE E n).length),k<j→(liveE E n)[k].sl≠i:=by
 have hm:E i ∈ liveE E n:=by
  unfold liveE Aq allL
  exact List.mem_map.2 ⟨i,List.mem_filter.2 ⟨List.mem_range.2 hi,by rw [Bool.and_true];exact hu⟩,rfl⟩
 obtain ⟨j,hj,e⟩:=List.mem_iff_getElem.1 hm
 refine ⟨j,hj,e,fun k hk hkj=>?_⟩
 have:=List.pairwise_iff_getElem.1 (Dh n h) k j hk hj hkj
 rw [e,h i hi] at this
 omega
theorem JO (h:∀ k,k<n→(E k).sl=k) {i:Int} (hi:¬ (0≤i∧i<n∧(E i.toNat).used=true)) {y:Slt} (hy:y ∈ liveE E n):y.sl≠i:=fun e=>by
 obtain ⟨a,b,c,d⟩:=GL n h hy
 rw [e] at a b d
 exact hi ⟨a,b,by rw [d];exact c⟩
theorem Cn (E:Nat→Slt):∀ m:Nat,(liveE E m).length≤m
 | 0=>Nat.le_refl _
 | m+1=>by
  have ih:=Cn E m
  rw [Bz]
  split
  ·
   rw [List.length_append]
   simp
   omega
  · omega
end
theorem Iz (w:World) (a:Addr) (x:Slt) (hc:∀ j u,x.ent[j]?=some u→w.cell? (a.add j)=some u):(Instr.loadAt 52 (.pointer (some a))).run Tryz.prog w=.ok (.agg x.entA) w:=by
 have hl:(loadCells a 14).run Tryz.prog w=.ok x.ent.toArray w:=run_loadCells_list (P:=Tryz.prog) w a x.ent hc
 have hs:(Tryz.prog.info? 52).map (·.size)=some 14:=by kernel_rfl
 cases hq:Tryz.prog.info? 52 with
 | none=>simp [hq] at hs
 | some i =>
  have hs2:i.size=14:=by simpa [hq] using hs
  have hagg:(isAgg 52).run Tryz.prog w=.ok true w:=by
   unfold isAgg
   rw [Sem.run_bind,run_underlying Tryz.underlying52 w]
   rfl
  simp only [Instr.loadAt,Instr.sureAddr,Sem.run_bind,Sem.run_pure,Result.andThen_ok]
  simp [loadVar,Sem.run_bind,hagg,sizeOf,typeInfo,hq,hs2,hl]
theorem Am {ops:Array Oper} {rest:List Oper} {op:Oper} {a:Act} {w:World} {Q:Exit→Act→World→Prop} (hgd:op.guard=none) (y:Operand) (ho:op.op=.load 52 y) (ad:Addr) (hx:a.eval y=.pointer (some ad)) (x:Slt)
  (hc:∀ j u,x.ent[j]?=some u→w.cell? (ad.add j)=some u) (h:wpList Tryz.prog ops Q rest (a.put op.dst (.agg x.entA)) w):wpList Tryz.prog ops Q (op :: rest) a w :=
 wpList_plain hgd fun _ hK=>by
  unfold Oper.wp execOp
  simp only [ho,hx]
  rw [Sem.run_bind,Iz w ad x hc]
  exact hK _ _ h
theorem Aw {W:World} {ops:Array Oper} {rest:List Oper} {o:Oper} {a:Act} {Q:Exit→Act→World→Prop} (hgd:o.guard=none) (s x:Operand)
  (ho:o.op=.call { callee:=.builtin .append,args:=#[s,x],argTypes:=#[58,58] })
  (base:Nat) (A:Option Addr) (c:Nat) (l:List Slt) (n:Nat) (hn:l.length=n) (hs:a.eval s=.slice A n c) (hown:OwnE W base A c l) (A2:Option Addr) (c2:Nat) (l2:List Slt) (m:Nat) (hm:l2.length=m)
  (hx:a.eval x=.slice A2 m c2) (hr:Reads W W.heap.size 14 A2 m (l2.flatMap Slt.ent)) (hl:n+m≤1000000) (hbase:base≤W.heap.size)
  (h:∀ A' c' w',OwnE w' base A' c' (l ++ l2)→Pushed W w' A A'→wpList Tryz.prog ops Q rest (a.put o.dst (.slice A' (n+m) c')) w'):wpList Tryz.prog ops Q (o :: rest) a W:=by
 subst hn hm
 obtain ⟨i0,hi0,hz0,hz1,hz2⟩:=info_parts Ip
 refine Bq _ hgd s x 58 ho base 52 i0 _ 14 112 Tryz.underlying58 hi0 hz0 hz1 hz2 rfl (by decide) (.slice A l.length c) l.length (l.flatMap Slt.ent) hs hown W.heap.size A2 l2.length c2 (l2.flatMap Slt.ent) hx hr (fun u hu=>by
  obtain ⟨y,-,hy⟩:=List.mem_flatMap.1 hu
  unfold Slt.ent at hy
  simp at hy
  rcases hy with rfl | rfl | rfl | rfl | rfl | rfl | rfl | rfl | rfl | rfl | rfl | rfl | rfl | rfl <;> rfl) (by unfold maxLen;omega) (by omega) hbase ?_
 intro A' c' w' hown' hg' hat
 have hA:∀ k,(Value.slice A l.length c).ownBlock=some k ↔ InB A k:=hown.own_block
 have hO:OwnE w' base A' c' (l ++ l2):=by
  unfold OwnE OwnA
  rw [List.length_append,List.flatMap_append]
  exact hown'
 refine h A' c' w' hO ⟨?_,?_⟩
 · exact (Chg.refl _ W).grown hg' (fun k hk _=>(hA k).1 hk)
 ·
  intro b hb
  have e1:(Value.slice A' (l.length+l2.length) c').ownBlock=some b:=by
   have:=(hO.own_block b).2 hb
   simpa [Value.ownBlock] using this
  rcases hat with h2 | h2
  ·
   rw [h2] at e1
   exact .inl ((hA b).1 e1)
  ·
   rw [h2] at e1
   simp at e1
   exact .inr (by omega)
structure DTs where
 now:Int
 M:LM
 L:List Int
 LL:List Slt
 gen:Nat→Int
 lk:Int
def DTabP (w:World) (g n:Nat) (b:Int) (c:TCfg) (d:DTs) (X:Nat→Prop):Prop :=
 ∃ (fs wg gb:Nat) (F Y:Nat→Prop) (A:Option Addr) (q:Nat),Blk w g 142 #[.int .i64 b,.int .i64 c.a,.int .i64 c.b,.int .i64 c.c,.int .i64 c.d,.pointer (some ⟨fs,0,none⟩),.pointer (some ⟨wg,0,none⟩),.slice A d.LL.length q,.slice (some ⟨gb,0,none⟩) n n,.int .i64 d.lk] ∧
  RefP w fs n d.L F∧RWheelP w wg c.G d.now d.M Y∧OwnE w 0 A q d.LL∧w.rowIs gb 24 n (fun k=>.int .u64 (d.gen k))∧(∀ x,X x ↔ x=g∨x=gb∨InB A x∨F x∨Y x)∧(∀ x,F x→¬ Y x)∧(∀ x,F x∨Y x→x≠g∧x≠gb∧¬ InB A x)∧g≠gb∧(∀ x,InB A x→x≠g∧x≠gb)∧n≤4096
section
variable {w w':World} {g n:Nat} {b:Int} {c:TCfg} {d:DTs} {X F:Nat→Prop}
theorem DTabP.chg (h:DTabP w g n b c d X) (k:Chg F w w') (hd:∀ x,X x→¬ F x):DTabP w' g n b c d X:=by
 obtain ⟨fs,wg,gb,F',Y,A,q,h1,h2,h3,h4,h5,h6,h7⟩:=h
 exact ⟨fs,wg,gb,F',Y,A,q,h1.chg k (hd _ ((h6 _).2 (.inl rfl))),h2.chg k (fun x hx=>hd x ((h6 x).2 (.inr (.inr (.inr (.inl hx)))))),h3.chg k (fun x hx=>hd x ((h6 x).2 (.inr (.inr (.inr (.inr hx)))))),h4.chg k (fun x hx=>hd x ((h6 x).2 (.inr (.inr (.inl hx))))),C6 h5 k (hd _ ((h6 _).2 (.inr (.inl rfl)))),h6,h7⟩
theorem DTabP.call (h:DTabP w g n b c d X) (hb:Below w.heap.size w w'):DTabP w' g n b c d X:=h.chg (F:=fun _=>False) (Chg.of_below hb) (fun _ _ h=>h)
theorem DTabP.lt (h:DTabP w g n b c d X) {x:Nat} (hx:X x):x<w.heap.size:=by
 obtain ⟨fs,wg,gb,F',Y,A,q,h1,h2,h3,h4,h5,h6,h7⟩:=h
 rcases (h6 x).1 hx with rfl | rfl | hx | hx | hx
 · exact h1.lt
 · exact h5.lt
 · exact (h4.block hx).2
 · exact h2.lt hx
 · exact h3.lt hx
theorem DTabP.gX (h:DTabP w g n b c d X):X g:=by
 obtain ⟨fs,wg,gb,F',Y,A,q,h1,h2,h3,h4,h5,h6,h7⟩:=h
 exact (h6 g).2 (.inl rfl)
theorem DTabP.cells (h:DTabP w g n b c d X):∃ (fs wg gb:Nat) (A:Option Addr) (q:Nat),w.cell? ⟨g,5,none⟩=some (.pointer (some ⟨fs,0,none⟩))∧w.cell? ⟨g,6,none⟩=some (.pointer (some ⟨wg,0,none⟩))∧w.cell? ⟨g,7,none⟩=some (.slice A d.LL.length q)∧w.cell? ⟨g,8,none⟩=some (.slice (some ⟨gb,0,none⟩) n n)∧w.cell? ⟨g,9,none⟩=some (.int .i64 d.lk)∧(∀ j,w.frozen? ⟨g,j,none⟩=false)∧OwnE w 0 A q d.LL∧w.rowIs gb 24 n (fun k=>.int .u64 (d.gen k))∧w.cell? ⟨wg,1,none⟩=some (.int .i64 d.now)∧n≤4096:=by
 obtain ⟨fs,wg,gb,F',Y,A,q,h1,h2,h3,h4,h5,h6,h7,h8,h9,h10,h11⟩:=h
 exact ⟨fs,wg,gb,A,q,h1.cell 5,h1.cell 6,h1.cell 7,h1.cell 8,h1.cell 9,h1.frozen,h4,h5,h3.now_,h11⟩
theorem DTabP.setLk (h:DTabP w g n b c d X) (l:Int):DTabP (w.setCell ⟨g,9,none⟩ (.int .i64 l)) g n b c { d with lk:=l } X∧Chg X w (w.setCell ⟨g,9,none⟩ (.int .i64 l)):=by
 have hX:=h.gX
 obtain ⟨fs,wg,gb,F',Y,A,q,h1,h2,h3,h4,h5,h6,h7,h8,h9,h10,h11⟩:=h
 have k:Chg (·=g) w (w.setCell ⟨g,9,none⟩ (.int .i64 l)):=Chg.setCell (F:=(·=g)) (p:=⟨g,9,none⟩) (Chg.refl _ _) (fun _=>rfl) _
 refine ⟨⟨fs,wg,gb,F',Y,A,q,?_,h2.chg k (fun x hx e=>(h8 x (.inl hx)).1 e),h3.chg k (fun x hx e=>(h8 x (.inr hx)).1 e),h4.chg k (fun x hx e=>(h10 x hx).1 e),C6 h5 k (fun e=>h9 e.symm),h6,h7,h8,h9,h10,h11⟩,k.mono fun x _ e=>by have e2:x=g:=e;exact e2 ▸ hX⟩
 have:=h1.set_ 9 (.int .i64 l)
 simpa using this
theorem Qf (h:DTabP w g n b c d X) (i:Int):Calls Tryz.prog 153 #[.pointer (some ⟨g,0,none⟩),.int .i64 i] w fun e w'=>e=.returned (.tuple #[])∧DTabP w' g n b c { d with lk:=if Bc n i then wrap64 (d.lk+1) else d.lk } X∧Chg X w w':=by
 obtain ⟨fs,wg,gb,A,q,-,-,-,c8,c9,fz,-,-,-,hn⟩:=h.cells
 have f9:=fz 9
 by_cases h0:0≤i
 ·
  have d0:decide (0≤i)=true:=by simpa using h0
  by_cases h1:i<(n:Int)
  ·
   have d1:decide (i<(n:Int))=true:=by simpa using h1
   have e:Bc n i=true:=by unfold Bc;simp;omega
   rw [e]
   have hs:=h.setLk (wrap64 (d.lk+1))
   replace hs:=Lib.hid hs
   clear fz e h
   go_enter Tryz.func153,Tryz.ntmps153
   go_wp2_with fail
   go_end0
   exact ⟨rfl,hs.out⟩
  ·
   have d1:decide (i<(n:Int))=false:=by simpa using h1
   have e:Bc n i=false:=by unfold Bc;simp;omega
   rw [e]
   clear fz e
   replace h:=Lib.hid h
   go_enter Tryz.func153,Tryz.ntmps153
   go_wp2_with fail
   go_end0
   exact ⟨rfl,h.out,Chg.refl _ _⟩
 ·
  have d0:decide (0≤i)=false:=by simpa using h0
  have e:Bc n i=false:=by unfold Bc;simp;omega
  rw [e]
  clear fz e
  replace h:=Lib.hid h
  go_enter Tryz.func153,Tryz.ntmps153
  go_wp2_with fail
  go_end0
  exact ⟨rfl,h.out,Chg.refl _ _⟩
theorem IA (h:DTabP w g n b c d X) (hl:d.LL.length≤1000000) (i:Int) (hno:∀ y ∈ d.LL,y.sl≠i):Calls Tryz.prog 165 #[.pointer (some ⟨g,0,none⟩),.int .i64 i] w fun e w'=>e=.returned (.int .i64 (-1))∧w=w':=by
 obtain ⟨fs,wg,gb,A,q,-,-,c7,-,-,-,hO,-,-,-⟩:=h.cells
 obtain ⟨LL,hLL⟩:∃ L,d.LL=L:=⟨_,rfl⟩
 rw [hLL] at c7 hO hl hno
 have hr:=hO.reads
 replace hr:=Lib.hid hr
 clear h hO hLL
 replace hno:=Lib.hid hno
 go_enter Tryz.func165,Tryz.ntmps165
 go_wp2_with fail
 go_loop [5] (fun iv=>∃ j:Nat,j≤LL.length∧iv=.int .i64 (j:Nat)) (fun iv=>LL.length - (intOf iv).toNat)
 case atStart=>exact ⟨0,by omega,rfl⟩
 case round =>
  obtain ⟨j,hj,rfl⟩:=hrel
  by_cases hlt:j<LL.length
  ·
   have hlti:(j:Int)<(LL.length:Int):=by omega
   obtain ⟨ad,rfl,hbl,hc⟩:=hr.out.rec_at Slt.ent (fun _=>rfl) hlt
   have c11:w.cell? ⟨(ad.add (j * 14)).block,(ad.add (j * 14)).off+11,none⟩=some (.int .i64 LL[j].sl):=hc 11 _ rfl
   have hne:(LL[j].sl==i)=false:=by simpa using hno.out _ (List.getElem_mem hlt)
   generalize LL[j].sl=y at *
   clear hc
   go_wp2_with fail
   go_round
   case rel=>exact ⟨j+1,by omega,by go_num⟩
   case measure=>simp [intOf];omega
  ·
   obtain rfl:j=LL.length:=by omega
   have hlti:¬ (LL.length:Int)<(LL.length:Int):=by omega
   go_wp2_with fail
   go_ret
   exact ⟨rfl,rfl⟩
theorem KA (h:DTabP w g n b c d X) (hl:d.LL.length≤1000000) (i:Int) (k:Nat) (hk:k<d.LL.length) (hki:d.LL[k].sl=i) (hno:∀ j (hj:j<d.LL.length),j<k→d.LL[j].sl≠i):Calls Tryz.prog 165 #[.pointer (some ⟨g,0,none⟩),.int .i64 i] w fun e w'=>e=.returned (.int .i64 (k:Int))∧w=w':=by
 obtain ⟨fs,wg,gb,A,q,-,-,c7,-,-,-,hO,-,-,-⟩:=h.cells
 obtain ⟨now,M,L,LL,gen,lk⟩:=d
 dsimp only at c7 hO hl hk hki hno
 have hr:=hO.reads
 replace hr:=Lib.hid hr
 clear h hO
 replace hno:=Lib.hid hno
 replace hki:=Lib.hid hki
 go_enter Tryz.func165,Tryz.ntmps165
 go_wp2_with fail
 go_loop [5] (fun iv=>∃ j:Nat,j≤k∧iv=.int .i64 (j:Nat)) (fun iv=>LL.length - (intOf iv).toNat)
 case atStart=>exact ⟨0,by omega,rfl⟩
 case round =>
  obtain ⟨j,hj,rfl⟩:=hrel
  have hlt:j<LL.length:=by omega
  have hlti:(j:Int)<(LL.length:Int):=by omega
  obtain ⟨ad,rfl,hbl,hc⟩:=hr.out.rec_at Slt.ent (fun _=>rfl) hlt
  have c11:w.cell? ⟨(ad.add (j * 14)).block,(ad.add (j * 14)).off+11,none⟩=some (.int .i64 LL[j].sl):=hc 11 _ rfl
  clear hc
  by_cases e:j=k
  ·
   subst e
   have hne:(LL[j].sl==i)=true:=by simpa using hki.out
   generalize LL[j].sl=y at *
   go_wp2_with fail
   go_ret
   exact ⟨rfl,rfl⟩
  ·
   have hne:(LL[j].sl==i)=false:=by simpa using hno.out j hlt (by omega)
   generalize LL[j].sl=y at *
   go_wp2_with fail
   go_round
   case rel=>exact ⟨j+1,by omega,by go_num⟩
   case measure=>simp [intOf];omega
end
theorem JP:∀ (k:Nat) (l:List Slt),(l.flatMap Slt.ent).drop (k * 14)=(l.drop k).flatMap Slt.ent
 | 0,l=>by simp
 | k+1,[]=>by simp
 | k+1,x :: r=>by
  have ih:=JP k r
  rw [List.flatMap_cons,List.drop_succ_cons,← ih,List.drop_append]
  have hl:x.ent.length=14:=rfl
  rw [List.drop_eq_nil_iff.2 (by rw [hl];omega),hl,List.nil_append]
  congr 1
  omega
theorem KD:(Tryz.prog.info? 52).map (·.size)=some 14:=by kernel_rfl
set_option maxRecDepth 100000 in
theorem IB (A:Option Addr) (n c k:Nat) (hk:k≤n) (hc:n≤c):∃ A2 c2,(∀ W,(Instr.slice 58 (.slice A n c) (some (.int .i64 (k:Int))) none none).run Tryz.prog W=.ok (.slice A2 (n - k) c2) W)∧∀ (W:World) (B:Nat) (l:List Slt),Reads W B 14 A n (l.flatMap Slt.ent)→Reads W B 14 A2 (n - k) ((l.drop k).flatMap Slt.ent):=by
 refine ⟨if c=k then A else A.map (·.add (k * 14)),c - k,fun W=>?_,fun W B xs h=>?_⟩
 ·
  rw [run_slice_l _ _ _ _ _ (by kernel_rfl) .i64 (k:Int) (by omega) (by omega)]
  have:(sizeOf (Tryz.prog.elem 58)).run Tryz.prog W=.ok 14 W:=by
   first | rfl | exact Tryz.sizeOf52 W | simp [go_sem]
  rw [this]
  simp [Result.andThen,sliced]
 ·
  rw [← JP]
  exact h.cut (k:=k) hk hc
theorem Rp {w:World} {base c:Nat} {A:Option Addr} {l:List Slt} (h:OwnE w base A c l):l.length≤c:=by
 rcases h.2 with ⟨h2,h3⟩ | ⟨g',cap',cur,hv,hb,hh,hc,hm,hs,hx⟩
 ·
  simp only [Value.slice.injEq] at h2
  omega
 ·
  simp only [Value.slice.injEq] at hv
  rw [hv.2.2]
  exact hc
section
variable {w w':World} {g n:Nat} {b:Int} {c:TCfg} {d:DTs} {X F:Nat→Prop}
theorem DTabP.setLL (h0:DTabP w g n b c d X) {W:World} (hb:Below w.heap.size w W) {A':Option Addr} {q':Nat} {LL':List Slt} {B:Nat} (hO:OwnE W B A' q' LL') (hB:w.heap.size≤B) :
  ∃ X',DTabP (W.setCell ⟨g,7,none⟩ (.slice A' LL'.length q')) g n b c { d with LL:=LL' } X'∧Chg X w (W.setCell ⟨g,7,none⟩ (.slice A' LL'.length q'))∧∀ x,X' x→X x∨w.heap.size≤x:=by
 have hX:=h0.gX
 have hlt:=fun x (hx:X x)=>h0.lt hx
 obtain ⟨fs,wg,gb,F',Y,A,q,h1,h2,h3,h4,h5,h6,h7,h8,h9,h10,h11⟩:=h0.call hb
 have k:Chg (·=g) W (W.setCell ⟨g,7,none⟩ (.slice A' LL'.length q')):=Chg.setCell (F:=(·=g)) (p:=⟨g,7,none⟩) (Chg.refl _ _) (fun _=>rfl) _
 have hgw:=hlt g hX
 have hn:∀ x,InB A' x→w.heap.size≤x:=fun x hx=>Nat.le_trans hB (hO.block hx).1
 refine ⟨fun x=>x=g∨x=gb∨InB A' x∨F' x∨Y x,⟨fs,wg,gb,F',Y,A',q',?_,h2.chg k (fun x hx e=>(h8 x (.inl hx)).1 e),h3.chg k (fun x hx e=>(h8 x (.inr hx)).1 e),?_,C6 h5 k (fun e=>h9 e.symm),fun x=>Iff.rfl,h7,fun x hx=>⟨(h8 x hx).1,(h8 x hx).2.1,fun hi=>?_⟩,h9,fun x hx=>⟨?_,?_⟩,h11⟩,?_,fun x hx=>?_⟩
 ·
  have:=h1.set_ 7 (.slice A' LL'.length q')
  simpa using this
 ·
  refine OwnA.chg (OwnA.low hO (Nat.zero_le _)) k (fun x hx e=>?_)
  have e2:x=g:=e
  have:=hn x hx
  omega
 ·
  have h12:=hn x hi
  have h13:=hlt x ((h6 x).2 (hx.elim (fun h=>.inr (.inr (.inr (.inl h)))) (fun h=>.inr (.inr (.inr (.inr h))))))
  omega
 ·
  rintro rfl
  have:=hn _ hx
  omega
 ·
  rintro rfl
  have:=hn _ hx
  have:=hlt _ ((h6 _).2 (.inr (.inl rfl)))
  omega
 · exact (Chg.of_below hb).trans (G:=(·=g)) k (fun x _ e=>by have e2:x=g:=e;exact e2 ▸ hX)
 ·
  rcases hx with rfl | rfl | hx | hx | hx
  · exact .inl hX
  · exact .inl ((h6 _).2 (.inr (.inl rfl)))
  · exact .inr (hn x hx)
  · exact .inl ((h6 _).2 (.inr (.inr (.inr (.inl hx)))))
  · exact .inl ((h6 _).2 (.inr (.inr (.inr (.inr hx)))))
end
section
variable {w w':World} {g n:Nat} {b:Int} {c:TCfg} {d:DTs} {X F:Nat→Prop}
theorem D7 {w:World} {r:Nat} {x:Slt} (h:Blk w r 52 x.entA):∀ j u,x.ent[j]?=some u→w.cell? ((⟨r,0,none⟩:Addr).add j)=some u:=fun j u hu=>by
 rw [Addr.add_mid,Nat.zero_add,h.cell j]
 exact (List.getElem?_toArray ..).trans hu
theorem SD {w:World} {B:Nat} {ad:Addr} {L:List Slt} (h:Reads w B 14 (some ad) L.length (L.flatMap Slt.ent)) {k:Nat} (hk:k<L.length):∀ j u,L[k].ent[j]?=some u→w.cell? ((ad.add (k * 14)).add j)=some u:=by
 obtain ⟨ad',e,-,hc⟩:=h.rec_at Slt.ent (fun _=>rfl) hk
 cases e
 exact hc
set_option maxRecDepth 100000 in
set_option maxHeartbeats 8000000 in
theorem IC (h:DTabP w g n b c d X) (hs:d.LL.Pairwise fun x y=>x.sl<y.sl) (hl:d.LL.length≤4096) (x:Slt) :
  Calls Tryz.prog 155 #[.pointer (some ⟨g,0,none⟩),x.val] w fun e w'=>e=.returned (.tuple #[])∧∃ X',DTabP w' g n b c { d with LL:=putL d.LL x } X'∧Chg X w w'∧∀ y,X' y→X y∨w.heap.size≤y:=by
 have HF:=Lib.hid fun (W:World) (hb:Below w.heap.size w W) (A':Option Addr) (q':Nat) (LL':List Slt) (B:Nat) (hO:OwnE W B A' q' LL') (hB:w.heap.size≤B)=>h.setLL hb hO hB
 obtain ⟨fs,wg,gb,A,q,-,-,c7,-,-,fz,hO,-,-,-⟩:=h.cells
 have hglt:=h.lt h.gX
 have f7:=fz 7
 obtain ⟨now,M,L,LL,gen,lk⟩:=d
 dsimp only at c7 hO hl hs HF
 dsimp only
 obtain ⟨PL,hPL⟩:∃ P,putL LL x=P:=⟨_,rfl⟩
 have hput:=Lib.hid (Sz hs x)
 rw [hPL] at hput ⊢
 have hcap:=Rp hO
 clear h fz hPL hs
 replace hO:=Lib.hid hO
 go_enter Tryz.func155,Tryz.ntmps155
 go_upto_region 1 with fail
 have hB0:=Blk.new w 52 x.entA
 have hb0:=Aa (Below.refl w.heap.size w) (.cells x.entA 52)
 have hz0:=World.size_alloc w (.cells x.entA 52)
 have c7':=(hb0.cell (A0 c7)).trans c7
 have f7':(w.alloc (.cells x.entA 52)).frozen? ⟨g,7,none⟩=false:=(hb0.frozen hglt).trans f7
 obtain ⟨r,hr⟩:∃ r,w.heap.size=r:=⟨_,rfl⟩
 rw [hr] at hB0
 try rw [hr]
 generalize w.alloc (.cells x.entA 52)=w1 at *
 clear c7 f7
 replace hB0:=Lib.hid hB0
 go_wp2_with fail
 go_loopw [4,5] (fun ov iv wr=>∃ (k:Nat) (A':Option Addr) (q':Nat),k≤LL.length∧iv=.int .i64 (k:Nat)∧ov=.slice A' k q'∧OwnE wr w1.heap.size A' q' (LL.take k)∧Below w1.heap.size w1 wr∧∀ j (hj:j<LL.length),j<k→LL[j].sl<x.sl) (fun _ iv _=>LL.length - (intOf iv).toNat)
 case atStart=>exact ⟨0,none,0,by omega,rfl,rfl,OwnA.nil _ _,Below.refl _ _,fun j _ hj=>absurd hj (by omega)⟩
 case round =>
  obtain ⟨k,A',q',hk,rfl,rfl,hT,hb,hall⟩:=hrel
  have hz:=hb.size
  have hlk:(LL.take k).length=k:=by rw [List.length_take];omega
  have c7:=(hb.cell (A0 c7')).trans c7'
  have hBr:=hB0.out.call hb
  have cx:wr.cell? ⟨r,11,none⟩=some (.int .i64 x.sl):=hBr.cell 11
  have hRd:=(hO.out.call (A8 hb hb0)).reads
  by_cases hs1:∃ hlt:k<LL.length,LL[k].sl<x.sl
  ·
   obtain ⟨hlt,hs1⟩:=hs1
   have hlti:(k:Int)<(LL.length:Int):=by omega
   obtain ⟨ad,rfl,hbl,hc⟩:=hRd.rec_at Slt.ent (fun _=>rfl) hlt
   have c11:wr.cell? ⟨(ad.add (k * 14)).block,(ad.add (k * 14)).off+11,none⟩=some (.int .i64 LL[k].sl):=hc 11 _ rfl
   have hd1:decide (LL[k].sl<x.sl)=true:=by simpa using hs1
   have hst:LL.take (k+1)=LL.take k ++ [LL[k]]:=List.take_succ_eq_append_getElem hlt
   obtain ⟨y,hy⟩:∃ y,LL[k]=y:=⟨_,rfl⟩
   rw [hy] at c11 hd1 hst hs1 hc
   replace hy:=Lib.hid hy
   replace hs1:=Lib.hid hs1
   replace hst:=Lib.hid hst
   replace hall:=Lib.hid hall
   replace hc:=Lib.hid hc
   replace hT:=Lib.hid hT
   clear hRd hBr
   go_upto_region 3 with fail
   go_quiet (fail)
   have hbn:=Al (Below.refl wr.heap.size wr) nq
   have c7n:=(hbn.cell (A0 c7)).trans c7
   have hcn:∀ j u,y.ent[j]?=some u→(wr.drewN nq).cell? ((ad.add (k * 14)).add j)=some u:=fun j u hu=>(hbn.cell (A0 (hc.out j u hu))).trans (hc.out j u hu)
   have hTn:=hT.out.call hbn
   have hb2:=A8 hbn hb
   clear c7 cx c11 hc hT hbn hb
   generalize wr.drewN nq=wz at *
   have hz2:=hb2.size
   replace hcn:=Lib.hid hcn
   replace hTn:=Lib.hid hTn
   go_wp2_with (first
    | (refine Am rfl (.tmp 34) rfl (ad.add (k * 14)) rfl y hcn.out ?_)
    | (at_builtin;refine AV rfl (.tmp 28) (.tmp 36) rfl w1.heap.size A' q' (LL.take k) y k hlk rfl hTn.out _ rfl rfl rfl (by omega) (by omega) ?_;intro A4 a4 w4 hO4 hp4))
   have hb4:=hp4.below hb2 (by omega) (fun z hz=>(hTn.out.block hz).1)
   go_roundw
   case rel=>exact ⟨k+1,A4,a4,by omega,by go_num,rfl,by rw [hst.out];exact hO4,hb4,fun j hj hjk=>by
    by_cases e:j=k
    ·
     subst e
     rw [hy.out]
     exact hs1.out
    · exact hall.out j hj (by omega)⟩
   case measure=>simp [intOf];omega
  ·
   obtain ⟨k2,hk2⟩:∃ k2,(if ∃ h:k<LL.length,LL[k].sl=x.sl then k+1 else k)=k2:=⟨_,rfl⟩
   have hp:=hput.out k hk hall (fun hlt=>Int.not_lt.1 fun h=>hs1 ⟨hlt,h⟩)
   rw [hk2] at hp
   have hk3:k2≤LL.length:=by
    rw [← hk2]
    split
    · next h=>obtain ⟨h1,-⟩:=h;omega
    · omega
   obtain ⟨A2,c2,hsl,hrd⟩:=IB A LL.length q k2 hk3 hcap
   have hRA:=Lib.hid fun W (hW:Below w1.heap.size w1 W)=>(hrd W _ LL (hO.out.call (A8 hW hb0)).reads)
   have hdl:(LL.drop k2).length=LL.length - k2:=List.length_drop ..
   have hPl:PL.length=k+1+(LL.length - k2):=by
    rw [hp,List.length_append,List.length_cons,hlk,hdl]
    omega
   have hk3i:(k2:Int)≤(LL.length:Int):=by omega
   have hk0i:(0:Int)≤(k2:Int):=by omega
   have FZ:=Lib.hid fun W (hW:Below w1.heap.size w1 W)=>And.intro ((hW.cell (A0 c7')).trans c7') ((hW.frozen (p:=⟨g,7,none⟩) (A0 c7')).trans f7')
   have XB:=Lib.hid fun W (hW:Below w1.heap.size w1 W)=>D7 (hB0.out.call hW)
   have CX:=Lib.hid fun W (hW:Below w1.heap.size w1 W)=>show W.cell? ⟨r,11,none⟩=some (.int .i64 x.sl) from (hB0.out.call hW).cell 11
   have hcase:(∃ hlt:k<LL.length,x.sl≤LL[k].sl)∨k=LL.length:=by
    by_cases hlt:k<LL.length
    · exact .inl ⟨hlt,Int.not_lt.1 fun h=>hs1 ⟨hlt,h⟩⟩
    · exact .inr (by omega)
   rcases hcase with ⟨hlt,hge⟩ | rfl
   ·
    have hlti:(k:Int)<(LL.length:Int):=by omega
    obtain ⟨ad,rfl,-,-⟩:=hRd.rec_at Slt.ent (fun _=>rfl) hlt
    have HC:=Lib.hid fun W (hW:Below w1.heap.size w1 W) (hlt:k<LL.length)=>show W.cell? ((ad.add (k * 14)).add 11)=some (.int .i64 LL[k].sl) from SD (hO.out.call (A8 hW hb0)).reads hlt 11 _ rfl
    by_cases he:LL[k].sl=x.sl
    ·
     obtain rfl:k+1=k2:=by rw [← hk2,if_pos ⟨hlt,he⟩]
     have hd1:decide (LL[k].sl<x.sl)=false:=by simpa using hge
     have C11:=Lib.hid fun W (hW:Below w1.heap.size w1 W)=>show W.cell? ⟨(ad.add (k * 14)).block,(ad.add (k * 14)).off+11,none⟩=some (.int .i64 LL[k].sl) from HC.out W hW hlt
     have c11:=C11.out wr hb
     have hE:(LL[k].sl==x.sl)=true:=by simpa using he
     generalize LL[k].sl=y at *
     clear he hge
     have hsl2:∀ W,(Instr.slice 58 (.slice (some ad) LL.length q) (some (.int .i64 ((k:Int)+1))) none none).run Tryz.prog W=.ok (.slice A2 (LL.length - (k+1)) c2) W:=fun W=>by rw [show (k:Int)+1=((k+1:Nat):Int) from rfl];exact hsl W
     have hk3i2:(k:Int)+1≤(LL.length:Int):=by omega
     clear hsl hk3i hk0i
     replace hp:=Lib.hid hp
     replace hPl:=Lib.hid hPl
     replace hdl:=Lib.hid hdl
     replace hlk:=Lib.hid hlk
     replace hT:=Lib.hid hT
     clear hRd hBr HC
     go_upto_region 3 with fail
     go_quiet (fail)
     have hbn:=Al (Below.refl wr.heap.size wr) nq
     have hTn:=Lib.hid (hT.out.call hbn)
     have hb2:=A8 hbn hb
     clear c7 cx hT hbn hb c11
     generalize wr.drewN nq=wz at *
     have hz2:=hb2.size
     go_upto_region 7 with (first
      | (refine Am rfl (.tmp 3) rfl ⟨r,0,none⟩ rfl x (XB.out _ hb2) ?_)
      | (at_builtin;refine AV rfl (.tmp 38) (.tmp 40) rfl w1.heap.size A' q' (LL.take k) x k hlk.out rfl hTn.out _ rfl rfl rfl (by have:=hlk.out;omega) (by omega) ?_;intro A5 q5 w5 hO5 hp5))
     have hb5:=hp5.below hb2 (by omega) (fun z hz=>(hTn.out.block hz).1)
     have hz5:=hb5.size
     obtain ⟨c7,f7⟩:=FZ.out w5 hb5
     have cx:=CX.out w5 hb5
     have c11:=C11.out w5 hb5
     replace hO5:=Lib.hid hO5
     clear hTn hp5 hb2 hz2 hz
     go_quiet (fail)
     have hbm:=Al (Below.refl w5.heap.size w5) nq
     have hO6:=Lib.hid (hO5.out.call hbm)
     have hb6:=A8 hbm hb5
     clear c7 f7 cx hO5 hbm hb5 hz5 c11
     generalize w5.drewN nq=w6 at *
     have hz6:=hb6.size
     obtain ⟨c7,f7⟩:=FZ.out w6 hb6
     go_wp2_with (first
      | (at_builtin;refine Aw rfl (.tmp 65) (.tmp 71) rfl w1.heap.size A5 q5 (LL.take k ++ [x]) (k+1) (by rw [List.length_append,hlk.out];rfl) rfl hO6.out A2 c2 (LL.drop (k+1)) (LL.length - (k+1)) hdl.out rfl (hRA.out _ hb6) (by omega) (by omega) ?_;intro A7 q7 w7 hO7 hp7;have hb7:=hp7.below hb6 (by omega) (fun z hz=>(hO6.out.block hz).1);obtain ⟨c7,f7⟩:=FZ.out w7 hb7))
     have hfin:=HF.out w7 (A8 hb7 hb0) A7 q7 PL w1.heap.size (by rw [hp.out];simpa using hO7) (by omega)
     rw [hPl.out] at hfin
     rw [show k+1+(LL.length - (k+1))=LL.length by omega] at hfin
     replace hfin:=Lib.hid hfin
     go_end0
     first | exact ⟨rfl,hfin.out⟩ | (have h9:=hfin.out;rw [hr] at h9;exact ⟨rfl,h9⟩)
    ·
     obtain rfl:k=k2:=by rw [← hk2,if_neg (fun h=>he h.2)]
     have hd1:decide (LL[k].sl<x.sl)=false:=by simpa using hge
     have C11:=Lib.hid fun W (hW:Below w1.heap.size w1 W)=>show W.cell? ⟨(ad.add (k * 14)).block,(ad.add (k * 14)).off+11,none⟩=some (.int .i64 LL[k].sl) from HC.out W hW hlt
     have c11:=C11.out wr hb
     have hE:(LL[k].sl==x.sl)=false:=by simpa using he
     generalize LL[k].sl=y at *
     clear he hge
     replace hp:=Lib.hid hp
     replace hPl:=Lib.hid hPl
     replace hdl:=Lib.hid hdl
     replace hlk:=Lib.hid hlk
     replace hT:=Lib.hid hT
     clear hRd hBr HC
     go_upto_region 3 with fail
     go_quiet (fail)
     have hbn:=Al (Below.refl wr.heap.size wr) nq
     have hTn:=Lib.hid (hT.out.call hbn)
     have hb2:=A8 hbn hb
     clear c7 cx hT hbn hb c11
     generalize wr.drewN nq=wz at *
     have hz2:=hb2.size
     go_upto_region 7 with (first
      | (refine Am rfl (.tmp 3) rfl ⟨r,0,none⟩ rfl x (XB.out _ hb2) ?_)
      | (at_builtin;refine AV rfl (.tmp 38) (.tmp 40) rfl w1.heap.size A' q' (LL.take k) x k hlk.out rfl hTn.out _ rfl rfl rfl (by have:=hlk.out;omega) (by omega) ?_;intro A5 q5 w5 hO5 hp5))
     have hb5:=hp5.below hb2 (by omega) (fun z hz=>(hTn.out.block hz).1)
     have hz5:=hb5.size
     obtain ⟨c7,f7⟩:=FZ.out w5 hb5
     have cx:=CX.out w5 hb5
     have c11:=C11.out w5 hb5
     replace hO5:=Lib.hid hO5
     clear hTn hp5 hb2 hz2 hz
     go_quiet (fail)
     have hbm:=Al (Below.refl w5.heap.size w5) nq
     have hO6:=Lib.hid (hO5.out.call hbm)
     have hb6:=A8 hbm hb5
     clear c7 f7 cx hO5 hbm hb5 hz5 c11
     generalize w5.drewN nq=w6 at *
     have hz6:=hb6.size
     obtain ⟨c7,f7⟩:=FZ.out w6 hb6
     go_wp2_with (first
      | (at_builtin;refine Aw rfl (.tmp 65) (.tmp 71) rfl w1.heap.size A5 q5 (LL.take k ++ [x]) (k+1) (by rw [List.length_append,hlk.out];rfl) rfl hO6.out A2 c2 (LL.drop k) (LL.length - k) hdl.out rfl (hRA.out _ hb6) (by omega) (by omega) ?_;intro A7 q7 w7 hO7 hp7;have hb7:=hp7.below hb6 (by omega) (fun z hz=>(hO6.out.block hz).1);obtain ⟨c7,f7⟩:=FZ.out w7 hb7))
     have hfin:=HF.out w7 (A8 hb7 hb0) A7 q7 PL w1.heap.size (by rw [hp.out];simpa using hO7) (by omega)
     rw [hPl.out] at hfin
     replace hfin:=Lib.hid hfin
     go_end0
     first | exact ⟨rfl,hfin.out⟩ | (have h9:=hfin.out;rw [hr] at h9;exact ⟨rfl,h9⟩)
   ·
    obtain rfl:LL.length=k2:=by rw [← hk2,if_neg (fun h=>by obtain ⟨h1,-⟩:=h;omega)]
    have hlti:¬ ((LL.length:Nat):Int)<(LL.length:Int):=by omega
    replace hp:=Lib.hid hp
    replace hPl:=Lib.hid hPl
    replace hdl:=Lib.hid hdl
    replace hlk:=Lib.hid hlk
    replace hT:=Lib.hid hT
    clear hRd hBr
    go_upto_region 3 with fail
    go_quiet (fail)
    have hbn:=Al (Below.refl wr.heap.size wr) nq
    have hTn:=Lib.hid (hT.out.call hbn)
    have hb2:=A8 hbn hb
    clear c7 cx hT hbn hb
    generalize wr.drewN nq=wz at *
    have hz2:=hb2.size
    go_upto_region 7 with (first
     | (refine Am rfl (.tmp 3) rfl ⟨r,0,none⟩ rfl x (XB.out _ hb2) ?_)
     | (at_builtin;refine AV rfl (.tmp 38) (.tmp 40) rfl w1.heap.size A' q' (LL.take LL.length) x LL.length hlk.out rfl hTn.out _ rfl rfl rfl (by have:=hlk.out;omega) (by omega) ?_;intro A5 q5 w5 hO5 hp5))
    have hb5:=hp5.below hb2 (by omega) (fun z hz=>(hTn.out.block hz).1)
    have hz5:=hb5.size
    obtain ⟨c7,f7⟩:=FZ.out w5 hb5
    have cx:=CX.out w5 hb5
    replace hO5:=Lib.hid hO5
    clear hTn hp5 hb2 hz2 hz
    go_quiet (fail)
    have hbm:=Al (Below.refl w5.heap.size w5) nq
    have hO6:=Lib.hid (hO5.out.call hbm)
    have hb6:=A8 hbm hb5
    clear c7 f7 cx hO5 hbm hb5 hz5
    generalize w5.drewN nq=w6 at *
    have hz6:=hb6.size
    obtain ⟨c7,f7⟩:=FZ.out w6 hb6
    go_wp2_with (first
     | (at_builtin;refine Aw rfl (.tmp 65) (.tmp 71) rfl w1.heap.size A5 q5 (LL.take LL.length ++ [x]) (LL.length+1) (by rw [List.length_append,hlk.out];rfl) rfl hO6.out A2 c2 [] 0 rfl rfl (by have h9:=hRA.out _ hb6;rw [Nat.sub_self,List.drop_length] at h9;exact h9) (by omega) (by omega) ?_;intro A7 q7 w7 hO7 hp7;have hb7:=hp7.below hb6 (by omega) (fun z hz=>(hO6.out.block hz).1);obtain ⟨c7,f7⟩:=FZ.out w7 hb7))
    have hfin:=HF.out w7 (A8 hb7 hb0) A7 q7 PL w1.heap.size (by rw [hp.out];simpa using hO7) (by omega)
    rw [hPl.out] at hfin
    rw [show LL.length+1+(LL.length - LL.length)=LL.length+1 by omega] at hfin
    replace hfin:=Lib.hid hfin
    go_end0
    first | exact ⟨rfl,hfin.out⟩ | (have h9:=hfin.out;rw [hr] at h9;exact ⟨rfl,h9⟩)
end
def DTo (w w':World) (g n:Nat) (b:Int) (c:TCfg) (d:DTs) (X:Nat→Prop):Prop :=
 ∃ X',DTabP w' g n b c d X'∧Chg X w w'∧∀ y,X' y→X y∨w.heap.size≤y
section
variable {w w' w1 w2:World} {g n:Nat} {b:Int} {c:TCfg} {d d':DTs} {X F:Nat→Prop}
theorem DTabP.wheel (h:DTabP w g n b c d X):∃ wg Y,w.cell? ⟨g,6,none⟩=some (.pointer (some ⟨wg,0,none⟩))∧RWheelP w wg c.G d.now d.M Y∧∀ (w':World) (now':Int) (M':LM) (Y':Nat→Prop),RWheelP w' wg c.G now' M' Y'→Chg Y w w'→(∀ y,Y' y→Y y∨w.heap.size≤y)→DTo w w' g n b c { d with now:=now',M:=M' } X:=by
 have hlt:=fun x (hx:X x)=>h.lt hx
 obtain ⟨fs,wg,gb,F',Y,A,q,h1,h2,h3,h4,h5,h6,h7,h8,h9,h10,h11⟩:=h
 refine ⟨wg,Y,h1.cell 6,h3,fun w' now' M' Y' k1 k2 k3=>?_⟩
 have hY:∀ y,Y y→X y:=fun y hy=>(h6 y).2 (.inr (.inr (.inr (.inr hy))))
 have hnew:∀ y,X y→¬ Y y→¬ Y' y:=fun y hx hn hy=>(k3 y hy).elim hn fun h=>by have:=hlt y hx;omega
 have gX:X g:=(h6 g).2 (.inl rfl)
 have gbX:X gb:=(h6 gb).2 (.inr (.inl rfl))
 have gY:¬ Y g:=fun hy=>(h8 g (.inr hy)).1 rfl
 have gbY:¬ Y gb:=fun hy=>(h8 gb (.inr hy)).2.1 rfl
 have AY:∀ y,InB A y→¬ Y y:=fun y hi hy=>(h8 y (.inr hy)).2.2 hi
 refine ⟨fun x=>x=g∨x=gb∨InB A x∨F' x∨Y' x,⟨fs,wg,gb,F',Y',A,q,h1.chg k2 gY,h2.chg k2 h7,k1,h4.chg k2 AY,C6 h5 k2 gbY,fun x=>Iff.rfl,fun x hx=>hnew x ((h6 x).2 (.inr (.inr (.inr (.inl hx))))) (h7 x hx),fun x hx=>?_,h9,h10,h11⟩,k2.mono fun y _ hy=>hY y hy,fun y hy=>?_⟩
 ·
  rcases hx with hx | hx
  · exact h8 x (.inl hx)
  ·
   refine ⟨?_,?_,fun hi=>hnew x ((h6 x).2 (.inr (.inr (.inl hi)))) (AY x hi) hx⟩
   ·
    rintro rfl
    exact hnew _ gX gY hx
   ·
    rintro rfl
    exact hnew _ gbX gbY hx
 ·
  rcases hy with rfl | rfl | hy | hy | hy
  · exact .inl gX
  · exact .inl gbX
  · exact .inl ((h6 y).2 (.inr (.inr (.inl hy))))
  · exact .inl ((h6 y).2 (.inr (.inr (.inr (.inl hy)))))
  · exact (k3 y hy).imp (hY y) id
theorem DTabP.stack (h:DTabP w g n b c d X):∃ fs F,w.cell? ⟨g,5,none⟩=some (.pointer (some ⟨fs,0,none⟩))∧RefP w fs n d.L F∧∀ (w':World) (L':List Int) (F':Nat→Prop),RefP w' fs n L' F'→Chg F w w'→(∀ y,F' y→F y∨w.heap.size≤y)→DTo w w' g n b c { d with L:=L' } X:=by
 have hlt:=fun x (hx:X x)=>h.lt hx
 obtain ⟨fs,wg,gb,F',Y,A,q,h1,h2,h3,h4,h5,h6,h7,h8,h9,h10,h11⟩:=h
 refine ⟨fs,F',h1.cell 5,h2,fun w' L' F2 k1 k2 k3=>?_⟩
 have hY:∀ y,F' y→X y:=fun y hy=>(h6 y).2 (.inr (.inr (.inr (.inl hy))))
 have hnew:∀ y,X y→¬ F' y→¬ F2 y:=fun y hx hn hy=>(k3 y hy).elim hn fun h=>by have:=hlt y hx;omega
 have gX:X g:=(h6 g).2 (.inl rfl)
 have gbX:X gb:=(h6 gb).2 (.inr (.inl rfl))
 have gY:¬ F' g:=fun hy=>(h8 g (.inl hy)).1 rfl
 have gbY:¬ F' gb:=fun hy=>(h8 gb (.inl hy)).2.1 rfl
 have AY:∀ y,InB A y→¬ F' y:=fun y hi hy=>(h8 y (.inl hy)).2.2 hi
 have YF:∀ y,Y y→¬ F' y:=fun y hy hf=>h7 y hf hy
 refine ⟨fun x=>x=g∨x=gb∨InB A x∨F2 x∨Y x,⟨fs,wg,gb,F2,Y,A,q,h1.chg k2 gY,k1,h3.chg k2 YF,h4.chg k2 AY,C6 h5 k2 gbY,fun x=>Iff.rfl,fun x hx hy=>hnew x ((h6 x).2 (.inr (.inr (.inr (.inr hy))))) (YF x hy) hx,fun x hx=>?_,h9,h10,h11⟩,k2.mono fun y _ hy=>hY y hy,fun y hy=>?_⟩
 ·
  rcases hx with hx | hx
  ·
   refine ⟨?_,?_,fun hi=>hnew x ((h6 x).2 (.inr (.inr (.inl hi)))) (AY x hi) hx⟩
   ·
    rintro rfl
    exact hnew _ gX gY hx
   ·
    rintro rfl
    exact hnew _ gbX gbY hx
  · exact h8 x (.inr hx)
 ·
  rcases hy with rfl | rfl | hy | hy | hy
  · exact .inl gX
  · exact .inl gbX
  · exact .inl ((h6 y).2 (.inr (.inr (.inl hy))))
  · exact (k3 y hy).imp (hY y) id
  · exact .inl ((h6 y).2 (.inr (.inr (.inr (.inr hy)))))
theorem DTabP.setGen (h:DTabP w g n b c d X) (i:Nat) (v:Int) {gb:Nat} (hc:w.cell? ⟨g,8,none⟩=some (.slice (some ⟨gb,0,none⟩) n n)):DTabP (w.setCell ⟨gb,i,none⟩ (.int .u64 v)) g n b c { d with gen:=fun k=>if k=i then v else d.gen k } X∧Chg X w (w.setCell ⟨gb,i,none⟩ (.int .u64 v)):=by
 obtain ⟨fs,wg,gb',F',Y,A,q,h1,h2,h3,h4,h5,h6,h7,h8,h9,h10,h11⟩:=h
 have c8:w.cell? ⟨g,8,none⟩=some (.slice (some ⟨gb',0,none⟩) n n):=h1.cell 8
 obtain rfl:gb'=gb:=by
  rw [c8] at hc
  simpa using hc
 have k:Chg (·=gb') w (w.setCell ⟨gb',i,none⟩ (.int .u64 v)):=Chg.setCell (F:=(·=gb')) (p:=⟨gb',i,none⟩) (Chg.refl _ _) (fun _=>rfl) _
 refine ⟨⟨fs,wg,gb',F',Y,A,q,h1.chg k (fun e=>h9 e),h2.chg k (fun x hx e=>(h8 x (.inl hx)).2.1 e),h3.chg k (fun x hx e=>(h8 x (.inr hx)).2.1 e),h4.chg k (fun x hx e=>(h10 x hx).2 e),(h5.set i (.int .u64 v)).congr fun j hj=>?_,h6,h7,h8,h9,h10,h11⟩,k.mono fun x _ e=>by have e2:x=gb':=e;exact (h6 x).2 (.inr (.inl e2))⟩
 by_cases e:j=i <;> simp [e]
theorem NM (h:DTabP w g n b c d X) (hM:d.M.length≤100000) (id:Int):∃ wg,w.cell? ⟨g,6,none⟩=some (.pointer (some ⟨wg,0,none⟩))∧Calls Tryz.prog 223 #[.pointer (some ⟨wg,0,none⟩),.int .i64 id] w fun e w'=>e=.returned (.bool (lmHas d.M id))∧DTo w w' g n b c { d with M:=lmDel d.M id } X:=by
 obtain ⟨wg,Y,h1,h2,h3⟩:=h.wheel
 refine ⟨wg,h1,(Jd h2 hM id).mono ?_⟩
 rintro e w' ⟨rfl,Y',k1,k2,k3⟩
 exact ⟨rfl,h3 w' _ _ Y' k1 k2 k3⟩
theorem IE (h:DTabP w g n b c d X) (hM:d.M.length≤100000) (i:Nat) (hi:i<4096) (due:Int) (hd:0≤due∧due≤2199023255552):∃ wg,w.cell? ⟨g,6,none⟩=some (.pointer (some ⟨wg,0,none⟩))∧Calls Tryz.prog 156 #[.pointer (some ⟨wg,0,none⟩),.int .i64 (i:Int),.int .i64 due] w fun e w'=>e=.returned (.bool true)∧DTo w w' g n b c { d with M:=lmPut d.M i due } X:=by
 obtain ⟨wg,Y,h1,h2,h3⟩:=h.wheel
 refine ⟨wg,h1,(Mg h2 i hi due hd hM).mono ?_⟩
 rintro e w' ⟨rfl,Y',k1,k2,k3⟩
 exact ⟨rfl,h3 w' _ _ Y' k1 k2 k3⟩
theorem Rq (h:DTabP w g n b c d X) (hL:d.L.length≤1000000):∃ fs,w.cell? ⟨g,5,none⟩=some (.pointer (some ⟨fs,0,none⟩))∧Calls Tryz.prog 152 #[.pointer (some ⟨fs,0,none⟩)] w fun e w'=>e=.returned (.tuple #[.int .i64 (d.L.headD 0),.bool (!d.L.isEmpty)])∧DTo w w' g n b c { d with L:=d.L.tail } X:=by
 obtain ⟨fs,F,h1,h2,h3⟩:=h.stack
 refine ⟨fs,h1,(refpop fs n d.L F w h2 hL).mono ?_⟩
 rintro e w' ⟨rfl,k1,k2⟩
 exact ⟨rfl,h3 w' _ F k1 k2 fun y hy=>.inl hy⟩
theorem Qg (h:DTabP w g n b c d X) (hL:d.L.length≤1000000) (i:Int):∃ fs,w.cell? ⟨g,5,none⟩=some (.pointer (some ⟨fs,0,none⟩))∧Calls Tryz.prog 230 #[.pointer (some ⟨fs,0,none⟩),.int .i64 i] w fun e w'=>e=.returned (.bool (BV n d.L i))∧DTo w w' g n b c { d with L:=pushL n d.L i } X:=by
 obtain ⟨fs,F,h1,h2,h3⟩:=h.stack
 refine ⟨fs,h1,(Li fs n d.L F i w h2 hL).mono ?_⟩
 rintro e w' ⟨rfl,Y',k1,k2,k3⟩
 exact ⟨rfl,h3 w' _ Y' k1 k2 k3⟩
end
def goneD (n:Nat) (d:DTs) (i:Nat):DTs:={ d with M:=lmDel d.M i,L:=pushL n d.L i,LL:=delL d.LL i,gen:=fun k=>if k=i then IntKind.u64.wrap (d.gen i+1) else d.gen k }
theorem Qh {L:List Slt} {i:Int} {k:Nat} (hk:k<L.length):delL (L.take (k+1)) i=if L[k].sl=i then delL (L.take k) i else delL (L.take k) i ++ [L[k]]:=by
 unfold delL
 rw [List.take_succ_eq_append_getElem hk,List.filter_append]
 by_cases e:L[k].sl=i
 ·
  rw [if_pos e,List.filter_cons_of_neg (by simpa using e)]
  simp
 ·
  rw [if_neg e,List.filter_cons_of_pos (by simpa using e)]
  simp
theorem Rs (L:List Slt) (i:Int):(delL L i).length≤L.length:=List.length_filter_le _ _
section
variable {w w' w1 w2:World} {g n:Nat} {b:Int} {c:TCfg} {d d':DTs} {X X1 X2 F:Nat→Prop}
def XTo (w w1:World) (X X1:Nat→Prop):Prop:=Chg X w w1∧∀ y,X1 y→X y∨w.heap.size≤y
theorem XTo.trans (h:XTo w w1 X X1) (k:XTo w1 w2 X1 X2):XTo w w2 X X2:=by
 have hz:=h.1.size
 refine ⟨h.1.trans k.1 fun y hy hx=>?_,fun y hy=>?_⟩
 ·
  rcases h.2 y hx with h | h
  · exact h
  · omega
 ·
  rcases k.2 y hy with h' | h'
  · exact h.2 y h'
  · exact .inr (by omega)
theorem XTo.of (k:Chg X w w1):XTo w w1 X X:=⟨k,fun _ h=>.inl h⟩
theorem XTo.call (hb:Below w.heap.size w w1):XTo w w1 X X:=⟨Chg.of_below hb,fun _ h=>.inl h⟩
theorem DTo.mk (h:DTabP w1 g n b c d X1) (k:XTo w w1 X X1):DTo w w1 g n b c d X:=⟨X1,h,k⟩
set_option maxRecDepth 100000 in
set_option maxHeartbeats 8000000 in
theorem GM (h:DTabP w g n b c d X) (hl:d.LL.length≤4096) (hM:d.M.length≤100000) (hL:d.L.length≤1000000) (i:Nat) (hi:i<n) :
  Calls Tryz.prog 169 #[.pointer (some ⟨g,0,none⟩),.int .i64 (i:Int)] w fun e w'=>e=.returned (.tuple #[])∧DTo w w' g n b c (goneD n d i) X:=by
 have HF:=Lib.hid fun (W:World) (hb:Below w.heap.size w W) (A':Option Addr) (q':Nat) (LL':List Slt) (B:Nat) (hO:OwnE W B A' q' LL') (hB:w.heap.size≤B)=>h.setLL hb hO hB
 obtain ⟨fs,wg,gb,A,q,-,-,c7,-,-,fz,hO,-,-,hn⟩:=h.cells
 have f7:=fz 7
 unfold goneD
 obtain ⟨now,M,L,LL,gen,lk⟩:=d
 dsimp only at c7 hO hl hM hL HF ⊢
 have hlt0:=A0 c7
 clear h fz
 replace hO:=Lib.hid hO
 have FZ:=Lib.hid fun W (hW:Below w.heap.size w W)=>And.intro ((hW.cell hlt0).trans c7) ((hW.frozen (p:=⟨g,7,none⟩) hlt0).trans f7)
 clear c7 f7
 go_enter Tryz.func169,Tryz.ntmps169
 go_wp2_with fail
 go_loopw [4,5] (fun ov iv wr=>∃ (k:Nat) (out:List Slt) (A':Option Addr) (q':Nat),k≤LL.length∧out=delL (LL.take k) i∧iv=.int .i64 (k:Nat)∧ov=.slice A' out.length q'∧OwnE wr w.heap.size A' q' out∧Below w.heap.size w wr) (fun _ iv _=>LL.length - (intOf iv).toNat)
 case atStart=>exact ⟨0,[],none,0,by omega,rfl,rfl,rfl,OwnA.nil _ _,Below.refl _ _⟩
 case round =>
  obtain ⟨k,out,A',q',hk,hout,rfl,rfl,hT,hb⟩:=hrel
  have hz:=hb.size
  obtain ⟨c7,f7⟩:=FZ.out wr hb
  have hol:out.length≤4096:=by
   rw [hout]
   refine Nat.le_trans (Rs _ _) ?_
   rw [List.length_take]
   omega
  by_cases hlt:k<LL.length
  ·
   have hlti:(k:Int)<(LL.length:Int):=by omega
   obtain ⟨ad,rfl,hbl,hc⟩:=(hO.out.call hb).reads.rec_at Slt.ent (fun _=>rfl) hlt
   have c11:wr.cell? ⟨(ad.add (k * 14)).block,(ad.add (k * 14)).off+11,none⟩=some (.int .i64 LL[k].sl):=hc 11 _ rfl
   have hst:=Qh (i:=(i:Int)) hlt
   rw [← hout] at hst
   obtain ⟨y,hy⟩:∃ y,LL[k]=y:=⟨_,rfl⟩
   rw [hy] at c11 hst hc
   clear hy
   replace hc:=Lib.hid hc
   replace hT:=Lib.hid hT
   obtain ⟨m,hm⟩:∃ m,out.length=m:=⟨_,rfl⟩
   rw [hm] at hol
   try rw [hm]
   replace hm:=Lib.hid hm
   replace hout:=Lib.hid hout
   by_cases e:y.sl=(i:Int)
   ·
    have hne:(y.sl != (i:Int))=false:=by simpa using e
    rw [if_pos e] at hst
    replace hst:=Lib.hid hst
    clear e
    generalize y.sl=z at *
    go_wp2_with fail
    go_roundw
    case rel=>exact ⟨k+1,out,A',q',by omega,hst.out.symm,by go_num,by rw [hm.out],hT.out,hb⟩
    case measure=>simp [intOf];omega
   ·
    have hne:(y.sl != (i:Int))=true:=by simpa using e
    rw [if_neg e] at hst
    replace hst:=Lib.hid hst
    clear e
    go_wp2_with (first
     | (refine Am rfl (.tmp 32) rfl (ad.add (k * 14)) rfl y hc.out ?_)
     | (at_builtin;refine AV rfl (.tmp 26) (.tmp 34) rfl w.heap.size A' q' out y m hm.out rfl hT.out _ rfl rfl rfl (by have:=hm.out;omega) (by omega) ?_;intro A4 a4 w4 hO4 hp4))
    have hb4:=hp4.below hb (by omega) (fun z hz=>(hT.out.block hz).1)
    have hml:(out ++ [y]).length=m+1:=by rw [List.length_append,hm.out];rfl
    replace hml:=Lib.hid hml
    go_roundw
    case rel=>exact ⟨k+1,out ++ [y],A4,a4,by omega,hst.out.symm,by go_num,by rw [hml.out],hO4,hb4⟩
    case measure=>simp [intOf];omega
  ·
   obtain rfl:k=LL.length:=by omega
   have hlti:¬ ((LL.length:Nat):Int)<(LL.length:Int):=by omega
   rw [List.take_length] at hout
   have hfin:=HF.out wr hb A' q' out w.heap.size hT (Nat.le_refl _)
   rw [hout] at hfin
   replace hfin:=Lib.hid hfin
   have hol2:(delL LL i).length=out.length:=by rw [hout]
   replace hol2:=Lib.hid hol2
   replace hT:=Lib.hid hT
   clear hO FZ HF
   obtain ⟨m,hm⟩:∃ m,out.length=m:=⟨_,rfl⟩
   rw [hm] at hol
   try rw [hm]
   replace hm:=Lib.hid hm
   replace hout:=Lib.hid hout
   go_upto_region 7 with fail
   obtain ⟨X2,h2,k2⟩:=hfin.out
   rw [hol2.out,hm.out] at h2 k2
   generalize wr.setCell ⟨g,7,none⟩ (.slice A' m q')=w2 at *
   obtain ⟨wg2,c6,UN⟩:=NM h2 (by exact hM) i
   replace UN:=Lib.hid UN
   have k2:XTo w w2 X X2:=k2
   replace k2:=Lib.hid k2
   clear h2 c7 f7 hb hz hfin
   go_upto_region 8 with (go_at_call 223;(with_reducible refine UN.out.mono ?_);rintro e w3 ⟨rfl,X3,h3,k3⟩)
   obtain ⟨fs3,c5,PU⟩:=Qg h3 (by exact hL) i
   have k3:XTo w w3 X X3:=k2.out.trans k3
   replace PU:=Lib.hid PU
   replace k3:=Lib.hid k3
   clear h3 c6 UN k2
   go_upto_region 9 with (go_at_call 230;(with_reducible refine PU.out.mono ?_);rintro e w4 ⟨rfl,X4,h4,k4⟩)
   have k4:XTo w w4 X X4:=k3.out.trans k4
   obtain ⟨_,_,gb4,_,_,-,-,-,c8,-,fz,-,hG,-,-⟩:=h4.cells
   have cg:w4.cell? ⟨gb4,i,none⟩=some (.int .u64 (gen i)):=hG.cell hi
   have fg:=hG.frozen i
   have hii:(i:Int)<(n:Int):=by omega
   have hi0:(0:Int)≤(i:Int):=by omega
   obtain ⟨h5,k5⟩:=h4.setGen i (IntKind.u64.wrap (gen i+1)) c8
   have k5:=k4.trans (XTo.of k5)
   have hr:=DTo.mk h5 k5
   replace hr:=Lib.hid hr
   replace k4:=Lib.hid k4
   replace k5:=Lib.hid k5
   replace h5:=Lib.hid h5
   replace h4:=Lib.hid h4
   clear c5 PU k3 hG fz
   go_wp2_with fail
   go_end0
   exact ⟨rfl,hr.out⟩
theorem DTo.fin {r:Nat} {w3:World} (hX:∀ y,X y→y<w.heap.size) (hb:Below w.heap.size w w1) (t:DTo w1 w2 g n b c d X) (k:Chg (·=r) w2 w3) (hr:w.heap.size≤r) (hr1:r<w1.heap.size):DTo w w3 g n b c d X:=by
 obtain ⟨X',h1,h2,h3⟩:=t
 have hz:=hb.size
 have hn:∀ y,X' y→y≠r:=fun y hx=>by
  rcases h3 y hx with h | h
  ·
   have:=hX y h
   omega
  · omega
 exact ⟨X',h1.chg k fun y hx e=>hn y hx e,((Chg.of_below hb).trans (G:=X) h2 (fun _ _ h=>h)).trans (G:=(·=r)) k (fun y hb e=>by have e2:y=r:=e;omega),fun y hx=>(h3 y hx).imp id (fun h=>Nat.le_trans hz h)⟩
theorem NN {w:World} {r:Nat} {x:Slt} (h:Blk w r 52 x.entA):w.there r 0 14:=fun j hj=>by
 refine ⟨?_,h.frozen _⟩
 have e:x.entA[j]?=x.ent[j]?:=List.getElem?_toArray ..
 rw [Nat.zero_add,h.cell j,e,List.getElem?_eq_getElem (show j<x.ent.length from hj)]
 rfl
theorem Rt (x:Slt):x.entA.all (·.oneCell')=true:=by
 refine all_oneCell_toArray (cs:=x.ent) fun u hu=>?_
 unfold Slt.ent at hu
 simp at hu
 rcases hu with rfl | rfl | rfl | rfl | rfl | rfl | rfl | rfl | rfl | rfl | rfl | rfl | rfl | rfl <;> rfl
theorem Ay {ops:Array Oper} {rest:List Oper} {op:Oper} {a:Act} {w:World} {Q:Exit→Act→World→Prop} (hgd:op.guard=none) (hdst:op.dst=none) (x y:Operand) (ho:op.op=.store 52 x y) {r:Nat} {z:Slt} (hB:Blk w r 52 z.entA) (v:Slt) (hx:a.eval x=.pointer (some ⟨r,0,none⟩)) (hy:a.eval y=.agg v.entA)
  (h:wpList Tryz.prog ops Q rest a (Ac w r v)):wpList Tryz.prog ops Q (op :: rest) a w :=
 wpList_store_mid hgd 52 x y ho r 0 v.entA hx hy (NN hB) KD (Rt v) (by rw [hdst];exact h)
end
@[reducible] def dOf (n:Nat) (s:TSt):DTs:=⟨s.now,s.M,s.L,liveE s.E n,fun k=>(s.E k).gen,s.lk⟩
theorem Ru (n:Nat) (i:Int) (s:TSt):({ dOf n s with lk:=if Bc n i then wrap64 ((dOf n s).lk+1) else (dOf n s).lk }:DTs)=dOf n (lookS n i s):=by
 unfold lookS
 split <;> rfl
theorem IG {n:Nat} {s:TSt} (hsl:∀ k:Nat,k<n→(s.E k).sl=k) (i:Nat):goneD n (dOf n s) i=dOf n (goS n s i):=by
 unfold goneD goS
 have e1:liveE (updE s.E i (clrS (s.E i))) n=delL (liveE s.E n) i:=JN rfl n hsl
 have e2:(fun k=>(updE s.E i (clrS (s.E i)) k).gen)=fun k=>if k=i then IntKind.u64.wrap ((s.E i).gen+1) else (s.E k).gen:=by
  funext k
  by_cases e:k=i
  ·
   subst e
   rw [Ad,if_pos rfl]
   rfl
  · rw [AP _ _ e,if_neg e]
 show DTs.mk _ _ _ _ _ _=DTs.mk _ _ _ _ _ _
 rw [e1,e2]
theorem P8 {n:Nat} {s:TSt} (hsl:∀ k:Nat,k<n→(s.E k).sl=k) (i:Nat) (hi:i<n) (x:Slt) (hx:x.used=true) (hs:x.sl=i) (hg:x.gen=(s.E i).gen) (M':LM):({ dOf n s with LL:=putL (liveE s.E n) x,M:=M' }:DTs)=dOf n { s with E:=updE s.E i x,M:=M' }:=by
 have e1:liveE (updE s.E i x) n=putL (liveE s.E n) x:=by
  rw [JM hx hs n hsl,if_pos hi]
 have e2:(fun k=>(updE s.E i x k).gen)=fun k=>(s.E k).gen:=by
  funext k
  by_cases e:k=i
  ·
   subst e
   rw [Ad,hg]
  · rw [AP _ _ e]
 show DTs.mk _ _ _ _ _ _=DTs.mk _ _ _ _ _ _
 rw [e1,e2]
section
variable {w w' w1 w2:World} {g n:Nat} {b:Int} {c:TCfg} {s:TSt} {X X1 X2 F:Nat→Prop}
theorem FF (h:DTabP w g n b c (dOf n s) X) (i:Int):Calls Tryz.prog 153 #[.pointer (some ⟨g,0,none⟩),.int .i64 i] w fun e w'=>e=.returned (.tuple #[])∧DTabP w' g n b c (dOf n (lookS n i s)) X∧Chg X w w':=by
 have:=Qf h i
 rw [Ru] at this
 exact this
theorem NP (h:DTabP w g n b c (dOf n s) X) (hi:TI n s) (hn:n≤4096) (i:Nat) (hin:i<n) :
  Calls Tryz.prog 169 #[.pointer (some ⟨g,0,none⟩),.int .i64 (i:Int)] w fun e w'=>e=.returned (.tuple #[])∧DTo w w' g n b c (dOf n (goS n s i)) X:=by
 have:=GM h (Nat.le_trans (Cn _ _) hn) (hi.mlen5 hn) (by have:=Cm hi;show s.L.length≤1000000;omega) i hin
 rw [IG hi.sl] at this
 exact this
theorem DTabP.n4096 {d:DTs} (h:DTabP w g n b c d X):n≤4096:=by
 obtain ⟨_,_,_,_,_,-,-,-,-,-,-,-,-,-,h⟩:=h.cells
 exact h
end
theorem Qi (n:Nat) (s:TSt) (k:Nat) (fl:Int):goS n (Bl n s k fl) k=goS n (lookS n k s) k:=by
 unfold goS Bl
 rw [Int.toNat_natCast]
 dsimp only
 rw [Az,Ad,AQ]
 rfl
theorem KE (c:TCfg) (n:Nat) (s:TSt) (k:Nat) (fl:Int):Ct c (Bl n s k fl) k={ lookS n k s with E:=updE (lookS n k s).E k { nextT (s.E k) fl with due:=dueT c s.now (nextS (s.E k).st fl) },M:=lmPut (lookS n k s).M k (dueT c s.now (nextS (s.E k).st fl)) }:=by
 unfold Ct Bl
 rw [Int.toNat_natCast]
 dsimp only
 rw [Az,Ad,AQ,Dm]
 rfl
section
variable {w w' w1 w2:World} {g n:Nat} {b:Int} {c:TCfg} {s:TSt} {X X1 X2 F:Nat→Prop}
theorem DTabP.rule {d:DTs} (h:DTabP w g n b c d X):w.cell? ⟨g,1,none⟩=some (.int .i64 c.a)∧w.cell? ⟨g,2,none⟩=some (.int .i64 c.b)∧w.cell? ⟨g,3,none⟩=some (.int .i64 c.c)∧w.cell? ⟨g,4,none⟩=some (.int .i64 c.d)∧(1≤c.G∧c.G≤1024)∧(0≤d.now∧d.now≤1099511627776):=by
 obtain ⟨fs,wg,gb,F',Y,A,q,h1,h2,h3,h4⟩:=h
 exact ⟨h1.cell 1,h1.cell 2,h1.cell 3,h1.cell 4,h3.rng⟩
set_option maxRecDepth 100000 in
set_option maxHeartbeats 16000000 in
theorem Mh (h:DTabP w g n b c (dOf n s) X) (hti:TI n s) (hI:c.right) (i fl:Int) :
  Calls Tryz.prog 89 #[.pointer (some ⟨g,0,none⟩),.int .i64 i,.int .i64 fl] w fun e w'=>e=.returned (.tuple #[(AO c n s i fl).val,.bool (AG n s i)])∧DTo w w' g n b c (dOf n (Bd c n s i fl)) X:=by
 have hn:=h.n4096
 have hXlt:∀ y,X y→y<w.heap.size:=fun y hy=>h.lt hy
 have B1:=Blk.new w 52 slt0.entA
 have hb1:Below w.heap.size w (w.alloc (.cells slt0.entA 52)):=Aa (Below.refl _ _) _
 have h1:=h.call hb1
 have hzz:w.heap.size<(w.alloc (.cells slt0.entA 52)).heap.size:=B1.lt
 clear h
 replace B1:=Lib.hid B1
 replace hti:=Lib.hid hti
 replace hXlt:=Lib.hid hXlt
 replace h1:=Lib.hid h1
 replace hI:=Lib.hid hI
 go_enter Tryz.func89,Tryz.ntmps89
 go_upto_region 1 with fail
 change Code.wp _ _ _ _ (w.alloc (.cells slt0.entA 52))
 obtain ⟨r,hr⟩:∃ r,w.heap.size=r:=⟨_,rfl⟩
 rw [hr] at B1 hzz
 generalize w.alloc (.cells slt0.entA 52)=w1 at *
 try rw [hr]
 have LK:=Lib.hid (FF h1.out i)
 go_upto_region 2 with (go_at_call 153;(with_reducible refine LK.out.mono ?_);rintro e w2 ⟨rfl,h2,hc2⟩)
 have B2:=B1.out.chg hc2 (fun e=>by have:=hXlt.out r e;omega)
 have hT2:=XTo.of hc2
 clear LK hc2
 have ht2:=hti.out.look i
 have hn2:=Nat.le_trans (Cn (lookS n i s).E n) hn
 replace hT2:=Lib.hid hT2
 by_cases hO:AG n s i=true
 ·
  have hO2:=hO
  unfold AG Bc at hO2
  rw [Bool.and_eq_true,decide_eq_true_eq] at hO2
  obtain ⟨k,rfl⟩:∃ k:Nat,i=(k:Int):=⟨i.toNat,by omega⟩
  rw [Int.toNat_natCast] at hO2
  have hk:k<n:=by omega
  obtain ⟨j,hj,hje,hjn⟩:=Iy (E:=(lookS n k s).E) ht2.sl hk (by rw [AQ];exact hO2.2)
  have hsl:=hti.out.sl k hk
  have AT:=Lib.hid (KA h2 (Nat.le_trans hn2 (by omega)) k j hj (by rw [hje,AQ];exact hsl) hjn)
  obtain ⟨_,_,_,A,q,-,-,c7,-,-,-,hOw,-,-,-⟩:=h2.cells
  obtain ⟨ad,rfl,-,hc⟩:=hOw.reads.rec_at Slt.ent (fun _=>rfl) hj
  have hV:AO c n s k fl=if nextS (s.E k).st fl=4 then nextT (s.E k) fl else { nextT (s.E k) fl with due:=dueT c s.now (nextS (s.E k).st fl) }:=by
   unfold AO
   rw [if_pos hO,Int.toNat_natCast]
  have hS:Bd c n s k fl=if nextS (s.E k).st fl=4 then goS n (lookS n k s) k else { lookS n k s with E:=updE (lookS n k s).E k { nextT (s.E k) fl with due:=dueT c s.now (nextS (s.E k).st fl) },M:=lmPut (lookS n k s).M k (dueT c s.now (nextS (s.E k).st fl)) }:=by
   unfold Bd
   rw [if_pos hO,Int.toNat_natCast,Qi,KE]
  have hPT:=P8 (s:=lookS n k s) ht2.sl k hk { nextT (s.E k) fl with due:=dueT c s.now (nextS (s.E k).st fl) } hO2.2 hsl (by rw [AQ];rfl)
  obtain ⟨xs,hxs⟩:∃ xs,s.E k=xs:=⟨_,rfl⟩
  rw [hje,AQ,hxs] at hc
  rw [hxs] at hV hS hPT hsl
  obtain ⟨ll,hll⟩:∃ ll,(liveE (lookS n k s).E n).length=ll:=⟨_,rfl⟩
  dsimp only [dOf] at c7
  have hj2:j<ll:=hll ▸ hj
  rw [hll] at c7
  have GO:=Lib.hid fun W (hb:Below w2.heap.size w2 W)=>NP (h2.call hb) ht2 hn k hk
  have hji:(j:Int)<(ll:Int):=by exact_mod_cast hj2
  have hj0:¬ ((j:Int)<0):=by omega
  have hB3:Blk (w2.alloc (.cells #[.int .i64 0,.bool false,.int .u64 0,.int .u64 0,.bool false,.int .u64 0,.int .u64 0,.int .i64 0,.int .i64 0,.int .i64 0,.int .i64 0,.int .i64 0,.int .u64 0,.int .i64 0] 52)) w2.heap.size 52 slt0.entA:=Blk.new w2 52 slt0.entA
  have hB2:=B2.call (Aa (Below.refl w2.heap.size w2) (.cells #[.int .i64 0,.bool false,.int .u64 0,.int .u64 0,.bool false,.int .u64 0,.int .u64 0,.int .i64 0,.int .i64 0,.int .i64 0,.int .i64 0,.int .i64 0,.int .u64 0,.int .i64 0] 52))
  have hsrt:=Dh (E:=(lookS n k s).E) n ht2.sl
  replace hsrt:=Lib.hid hsrt
  replace hc:=Lib.hid hc
  replace hn2:=Lib.hid hn2
  clear hOw hje hjn hj hll hO2 hxs h1
  replace h2:=Lib.hid h2
  replace ht2:=Lib.hid ht2
  replace hV:=Lib.hid hV
  replace hS:=Lib.hid hS
  replace hPT:=Lib.hid hPT
  replace hO:=Lib.hid hO
  replace hB3:=Lib.hid hB3
  replace hB2:=Lib.hid hB2
  replace B2:=Lib.hid B2
  replace hsl:=Lib.hid hsl
  go_upto_region 6 with (first
   | (go_at_call 165;(with_reducible refine AT.out.mono ?_);rintro e w3 ⟨rfl,rfl⟩)
   | (refine Am rfl (.tmp 24) rfl (ad.add (j * 14)) rfl xs hc.out ?_)
   | (refine Ay rfl rfl (.tmp 9) (.tmp 25) rfl hB3.out xs rfl rfl ?_))
  obtain ⟨hB4,hc4⟩:=Ab hB3.out xs
  have hz2:=hT2.out.1.size
  have hr2:r≠w2.heap.size:=by omega
  have hle2:w.heap.size≤w2.heap.size:=by omega
  have hB4r:=hB2.out.chg hc4 (fun e=>hr2 e)
  have hb4:Below w2.heap.size w2 (Ac (w2.alloc (.cells #[.int .i64 0,.bool false,.int .u64 0,.int .u64 0,.bool false,.int .u64 0,.int .u64 0,.int .i64 0,.int .i64 0,.int .i64 0,.int .i64 0,.int .i64 0,.int .u64 0,.int .i64 0] 52)) w2.heap.size xs):=Ar (Aa (Below.refl _ _) _) hc4 (fun y hy e=>by have e2:y=w2.heap.size:=e;omega) (by rw [World.size_alloc];omega)
  generalize Ac (w2.alloc (.cells #[.int .i64 0,.bool false,.int .u64 0,.int .u64 0,.bool false,.int .u64 0,.int .u64 0,.int .i64 0,.int .i64 0,.int .i64 0,.int .i64 0,.int .i64 0,.int .u64 0,.int .i64 0] 52)) w2.heap.size xs=w4 at *
  have hz4:w2.heap.size<w4.heap.size:=hB4.lt
  obtain ⟨r2,hr2e⟩:∃ r2,w2.heap.size=r2:=⟨_,rfl⟩
  clear hB3 hB2 hc4 hc
  have d10:w4.cell? ⟨r2,10,none⟩=some (.int .i64 xs.st):=by rw [← hr2e];exact hB4.cell 10
  have z10:w4.frozen? ⟨r2,10,none⟩=false:=by rw [← hr2e];exact hB4.frozen 10
  obtain ⟨nx,hnx⟩:∃ v,nextS xs.st fl=v:=⟨_,rfl⟩
  have NX:=Lib.hid fun W=>Lu xs.st fl W
  rw [hnx] at NX
  replace hB4:=Lib.hid hB4
  replace hB4r:=Lib.hid hB4r
  try rw [hr2e]
  go_upto_region 7 with (go_at_call 168;(with_reducible refine (NX.out _).mono ?_);rintro e w5 ⟨rfl,rfl⟩)
  have hB5:Blk (w4.setCell ⟨r2,10,none⟩ (.int .i64 nx)) r2 52 (nextT xs fl).entA:=by
   have h9:=hB4.out
   rw [hr2e] at h9
   have:=h9.set_ 10 (.int .i64 nx)
   unfold nextT
   rw [hnx]
   simpa using this
  have hB5r:Blk (w4.setCell ⟨r2,10,none⟩ (.int .i64 nx)) r 52 slt0.entA:=hB4r.out.far (p:=⟨r2,10,none⟩) (by rw [← hr2e];exact hr2) _
  have hb5:Below w2.heap.size w2 (w4.setCell ⟨r2,10,none⟩ (.int .i64 nx)):=hb4.setCell (p:=⟨r2,10,none⟩) (by show w2.heap.size≤r2;omega) _
  clear d10 z10 hB4 hB4r NX hb4 c7 AT hji hj0
  have hz5:r2<(w4.setCell ⟨r2,10,none⟩ (.int .i64 nx)).heap.size:=hB5.lt
  generalize w4.setCell ⟨r2,10,none⟩ (.int .i64 nx)=w5 at *
  rw [hnx] at hV hS hPT
  rw [hr2e] at hr2 hle2 hz2 hz4
  have d10:w5.cell? ⟨r2,10,none⟩=some (.int .i64 nx):=by rw [← hnx];exact hB5.cell 10
  replace hB5r:=Lib.hid hB5r
  by_cases hnx4:nx=4
  ·
   rw [if_pos hnx4] at hV hS
   have hn4:(nx==4)=true:=by simpa using hnx4
   have hT5:=Lib.hid (hT2.out.trans (XTo.call hb5))
   have GO5:=Lib.hid (GO.out w5 hb5)
   replace hB5:=Lib.hid hB5
   replace hV:=Lib.hid hV
   replace hS:=Lib.hid hS
   clear hPT hnx hnx4 GO hsrt hn2 hb5
   go_upto_region 9 with (go_at_call 169;(with_reducible refine GO5.out.mono ?_);rintro e w6 ⟨rfl,X6,h6,k6⟩)
   have hB6:=hB5.out.chg k6.1 (fun hx=>Nat.lt_irrefl _ (Nat.lt_of_lt_of_le (hXlt.out _ hx) hle2))
   have hB6r:=hB5r.out.chg k6.1 (fun hx=>Nat.lt_irrefl _ (Nat.lt_of_lt_of_le (hXlt.out _ hx) (Nat.le_of_eq hr)))
   have hT6:DTo w1 w6 g n b c (dOf n (Bd c n s k fl)) X:=by rw [hS.out];exact DTo.mk h6 (hT5.out.trans k6)
   replace hT6:=Lib.hid hT6
   clear GO5 hB5 hB5r h6 k6 d10
   obtain ⟨y,hy⟩:∃ y,nextT xs fl=y:=⟨_,rfl⟩
   rw [hy] at hB6
   replace hy:=Lib.hid hy
   go_wp2_with (first
    | (refine Am rfl (.tmp 9) rfl ⟨r2,0,none⟩ rfl y (D7 hB6) ?_)
    | (refine Ay rfl rfl (.tmp 6) (.tmp 37) rfl hB6r y rfl rfl ?_))
   change bodyPost _ _ _ _ _ (Ac w6 r y)
   obtain ⟨B6,hc6⟩:=Ab hB6r y
   have hT7:=DTo.fin hXlt.out hb1 hT6.out hc6 (Nat.le_of_eq hr) (by omega)
   generalize Ac w6 r y=w7 at *
   clear hB6 hB6r
   obtain ⟨r0,r1,r2,r3,r4,r5,r6,r7,r8,r9,r10,r11,r12,r13,-⟩:=AB B6
   clear B6 hc6
   replace hT7:=Lib.hid hT7
   refine bodyPost_ret (v:=.tuple #[y.val,.bool true]) (by simp [results,Tryz.results89,go_sem,r0,r1,r2,r3,r4,r5,r6,r7,r8,r9,r10,r11,r12,r13]) rfl ?_
   exact ⟨by rw [hV.out,hO.out,hy.out],hT7.out⟩
  ·
   have hn4:(nx==4)=false:=by simpa using hnx4
   rw [if_neg hnx4] at hV hS
   have h5:=h2.out.call hb5
   obtain ⟨u1,u2,u3,u4,hG,hnow⟩:=h5.rule
   obtain ⟨_,wg,_,_,_,-,c6,-,-,-,-,-,-,cw,-⟩:=h5.cells
   have d13:=hB5.cell 13
   have z13:=hB5.frozen 13
   have hid:=hI.out nx
   dsimp only [dOf] at cw hnow
   rw [Dm] at cw hnow
   have hwr:IntKind.i64.wrap (s.now+idleS c.a c.b c.c c.d nx)=dueT c s.now nx:=by unfold dueT;simp [IntKind.wrap,IntKind.bits,IntKind.signed];omega
   have hdr:0≤dueT c s.now nx∧dueT c s.now nx≤2199023255552:=by unfold dueT;omega
   have ID:=Lib.hid fun W=>H7 c.a c.b c.c c.d nx W
   obtain ⟨y,hy⟩:∃ y,({ nextT xs fl with due:=dueT c s.now nx }:Slt)=y:=⟨_,rfl⟩
   have hyd:y.due=dueT c s.now nx:=by rw [← hy]
   have hB5y:=fun W (h:Blk W r2 52 (nextT xs fl).entA)=>show Blk (W.setCell ⟨r2,13,none⟩ (.int .i64 (dueT c s.now nx))) r2 52 y.entA from by
    rw [← hy]
    simpa using h.set_ 13 (.int .i64 (dueT c s.now nx))
   rw [hy] at hV hS hPT
   generalize dueT c s.now nx=due at *
   generalize idleS c.a c.b c.c c.d nx=idl at *
   have hwg:wg<w5.heap.size:=A0 cw
   have SB:=Lib.hid fun W (hb:Below w5.heap.size w5 W)=>show ((W.cell? ⟨g,1,none⟩=some (.int .i64 c.a)∧W.cell? ⟨g,2,none⟩=some (.int .i64 c.b)∧W.cell? ⟨g,3,none⟩=some (.int .i64 c.c)∧W.cell? ⟨g,4,none⟩=some (.int .i64 c.d)∧W.cell? ⟨g,6,none⟩=some (.pointer (some ⟨wg,0,none⟩))∧W.cell? ⟨wg,1,none⟩=some (.int .i64 s.now)∧W.cell? ⟨r2,10,none⟩=some (.int .i64 nx))∧(∀ v,(W.setCell ⟨r2,13,none⟩ v).cell? ⟨g,1,none⟩=some (.int .i64 c.a)∧(W.setCell ⟨r2,13,none⟩ v).cell? ⟨g,2,none⟩=some (.int .i64 c.b)∧(W.setCell ⟨r2,13,none⟩ v).cell? ⟨g,3,none⟩=some (.int .i64 c.c)∧(W.setCell ⟨r2,13,none⟩ v).cell? ⟨g,4,none⟩=some (.int .i64 c.d)∧(W.setCell ⟨r2,13,none⟩ v).cell? ⟨g,6,none⟩=some (.pointer (some ⟨wg,0,none⟩))∧(W.setCell ⟨r2,13,none⟩ v).cell? ⟨wg,1,none⟩=some (.int .i64 s.now)∧(W.setCell ⟨r2,13,none⟩ v).cell? ⟨r2,10,none⟩=some (.int .i64 nx)))∧(∃ u,W.cell? ⟨r2,13,none⟩=some u)∧W.frozen? ⟨r2,13,none⟩=false from by
    have hgX:g≠r2:=fun e=>by have h9:=hXlt.out g h2.out.gX;omega
    have hwX:wg≠r2:=fun e=>by
     obtain ⟨wg',Y,c6',hW,-⟩:=h2.out.wheel
     have h8:=(hb5.cell (A0 c6')).trans c6'
     rw [c6] at h8
     have h9:wg=wg':=by simpa using h8
     have h10:=hW.lt hW.gY
     rw [← h9] at h10
     omega
    have e:=fun (p:Addr) v (hp:w5.cell? p=some v)=>(hb.cell (A0 hp)).trans hp
    have f:=fun (p:Addr) (v u:Value) (hp:w5.cell? p=some v) (hne:(⟨r2,13,none⟩:Addr)≠p)=>show (W.setCell ⟨r2,13,none⟩ u).cell? p=some v from (World.cell?_setCell_other _ _ _ _ hne).trans (e p v hp)
    refine ⟨⟨⟨e _ _ u1,e _ _ u2,e _ _ u3,e _ _ u4,e _ _ c6,e _ _ cw,e _ _ d10⟩,fun v=>⟨f _ _ v u1 ?_,f _ _ v u2 ?_,f _ _ v u3 ?_,f _ _ v u4 ?_,f _ _ v c6 ?_,f _ _ v cw ?_,f _ _ v d10 ?_⟩⟩,⟨_,e _ _ d13⟩,(hb.frozen (p:=⟨r2,13,none⟩) (A0 d13)).trans z13⟩
    all_goals (simp;try omega)
   have hb0:Below w5.heap.size w5 w5.drew:=(Below.refl _ _).drew
   have hS0:=(SB.out _ hb0).1.1
   replace hB5:=Lib.hid hB5
   replace hB5y:=Lib.hid hB5y
   replace hb5:=Lib.hid hb5
   replace hV:=Lib.hid hV
   replace hS:=Lib.hid hS
   replace hPT:=Lib.hid hPT
   replace hwr:=Lib.hid hwr
   replace hyd:=Lib.hid hyd
   clear hnx hnx4 GO h5 hy u1 u2 u3 u4 c6 cw d13 z13
   go_upto_region 10 with fail
   clear d10
   go_region_held3 (fun W=>W.cell? ⟨g,1,none⟩=some (.int .i64 c.a)∧W.cell? ⟨g,2,none⟩=some (.int .i64 c.b)∧W.cell? ⟨g,3,none⟩=some (.int .i64 c.c)∧W.cell? ⟨g,4,none⟩=some (.int .i64 c.d)∧W.cell? ⟨g,6,none⟩=some (.pointer (some ⟨wg,0,none⟩))∧W.cell? ⟨wg,1,none⟩=some (.int .i64 s.now)∧W.cell? ⟨r2,10,none⟩=some (.int .i64 nx)) (first | with_reducible assumption | with_reducible exact hS7 _) ((go_at_call 154;(with_reducible refine (ID.out _).mono ?_);rintro e w6 ⟨rfl,hb6⟩;obtain ⟨⟨hS6,hS7⟩,⟨y13,e13⟩,f13⟩:=SB.out _ (A8 hb6 hb0)))
   rw [hwr.out]
   have hbb:=A8 hb6 hb0
   have hB7:=hB5y.out w6 (hB5.out.call hbb)
   have hB7r:=(hB5r.out.call hbb).far (p:=⟨r2,13,none⟩) hr2 (.int .i64 due)
   have hb7:Below w2.heap.size w2 (w6.setCell ⟨r2,13,none⟩ (.int .i64 due)):=(A8 hbb hb5.out).setCell (p:=⟨r2,13,none⟩) (Nat.le_of_eq hr2e) _
   clear hS6 hS7 e13 f13 hb6 hbb SB ID hB5 hB5r hB5y hb5 hS0 hb0 hwr
   generalize w6.setCell ⟨r2,13,none⟩ (.int .i64 due)=w7 at *
   have h7:=h2.out.call hb7
   have PU:=Lib.hid (IC h7 hsrt.out hn2.out y)
   have hT7:=Lib.hid (hT2.out.trans (XTo.call hb7))
   clear h7 hb7
   replace hB7r:=Lib.hid hB7r
   go_upto_region 12 with (first
    | (refine Am rfl (.tmp 9) rfl ⟨r2,0,none⟩ rfl y (D7 hB7) ?_)
    | (go_at_call 155;(with_reducible refine PU.out.mono ?_);rintro e w8 ⟨rfl,X8,h8,k8⟩))
   have hd8:Below w8.heap.size w8 w8.drew:=(Below.refl _ _).drew
   have k9:XTo w1 w8.drew X X8:=(hT7.out.trans k8).trans (XTo.call hd8)
   have hB8:=(hB7.chg k8.1 (fun hx=>Nat.lt_irrefl _ (Nat.lt_of_lt_of_le (hXlt.out _ hx) hle2))).call hd8
   have hB8r:=(hB7r.out.chg k8.1 (fun hx=>Nat.lt_irrefl _ (Nat.lt_of_lt_of_le (hXlt.out _ hx) (Nat.le_of_eq hr)))).call hd8
   have hn2X:¬ X8 r2:=fun hx=>(k8.2 _ hx).elim (fun h=>Nat.lt_irrefl _ (Nat.lt_of_lt_of_le (hXlt.out _ h) hle2)) (fun h=>Nat.lt_irrefl _ (Nat.lt_of_lt_of_le hB7.lt h))
   have hnrX:¬ X8 r:=fun hx=>(k8.2 _ hx).elim (fun h=>Nat.lt_irrefl _ (Nat.lt_of_lt_of_le (hXlt.out _ h) (Nat.le_of_eq hr))) (fun h=>Nat.lt_irrefl _ (Nat.lt_of_lt_of_le hB7r.out.lt h))
   have h9:=h8.call hd8
   obtain ⟨wg9,c6,ST⟩:=IE h9 (by exact ht2.out.mlen5 hn) k (by omega) due hdr
   have d13:w8.drew.cell? ⟨r2,13,none⟩=some (.int .i64 due):=by rw [← hyd.out];exact hB8.cell 13
   replace ST:=Lib.hid ST
   replace k9:=Lib.hid k9
   replace hB8:=Lib.hid hB8
   replace hB8r:=Lib.hid hB8r
   clear PU hB7 hB7r h8 k8 h9 hd8 hT7
   have c6':w8.cell? ⟨g,6,none⟩=some (.pointer (some ⟨wg9,0,none⟩)):=c6
   have d13':w8.cell? ⟨r2,13,none⟩=some (.int .i64 due):=d13
   go_still_tail 7,(by kernel_rfl)
   change wpList _ _ _ _ _ w8.drew
   clear c6' d13'
   generalize w8.drew=w9 at *
   go_upto_region 13 with (go_at_call 156;(with_reducible refine ST.out.mono ?_);rintro e wa ⟨rfl,Xa,ha,ka⟩)
   have hBa:=hB8.out.chg ka.1 hn2X
   have hBar:=hB8r.out.chg ka.1 hnrX
   have hTa:DTo w1 wa g n b c (dOf n (Bd c n s k fl)) X:=DTo.mk (by rw [hS.out,← hPT.out];exact ha) (k9.out.trans ka)
   replace hTa:=Lib.hid hTa
   clear ha ka ST hB8 hB8r c6 d13
   go_wp2_with (first
    | (refine Am rfl (.tmp 9) rfl ⟨r2,0,none⟩ rfl y (D7 hBa) ?_)
    | (refine Ay rfl rfl (.tmp 6) (.tmp 65) rfl hBar y rfl rfl ?_))
   change bodyPost _ _ _ _ _ (Ac wa r y)
   obtain ⟨B6,hc6⟩:=Ab hBar y
   have hTb:=DTo.fin hXlt.out hb1 hTa.out hc6 (Nat.le_of_eq hr) (by omega)
   generalize Ac wa r y=wb at *
   clear hBa hBar
   obtain ⟨r0,r1,r2,r3,r4,r5,r6,r7,r8,r9,r10,r11,r12,r13,-⟩:=AB B6
   clear B6 hc6
   replace hTb:=Lib.hid hTb
   refine bodyPost_ret (v:=.tuple #[y.val,.bool true]) (by simp [results,Tryz.results89,go_sem,r0,r1,r2,r3,r4,r5,r6,r7,r8,r9,r10,r11,r12,r13]) rfl ?_
   exact ⟨by rw [hV.out,hO.out],hTb.out⟩
 ·
  have hV:AO c n s i fl=slt0:=by unfold AO;rw [if_neg hO]
  have hS:Bd c n s i fl=lookS n i s:=by unfold Bd;rw [if_neg hO]
  have hO1:AG n s i=false:=by simpa using hO
  have AT:=Lib.hid (IA h2 (Nat.le_trans hn2 (by omega)) i (fun y hy=>JO (E:=(lookS n i s).E) ht2.sl (fun hh=>hO (by
   unfold AG Bc
   rw [Bool.and_eq_true,decide_eq_true_eq]
   rw [AQ] at hh
   exact ⟨⟨hh.1,hh.2.1⟩,hh.2.2⟩)) hy))
  clear hO
  replace hV:=Lib.hid hV
  replace hS:=Lib.hid hS
  replace hO1:=Lib.hid hO1
  have hT5:DTo w1 w2 g n b c (dOf n (lookS n i s)) X:=DTo.mk h2 hT2.out
  replace hT5:=Lib.hid hT5
  clear h2 ht2 h1
  go_wp2_with (first
   | (go_at_call 165;(with_reducible refine AT.out.mono ?_);rintro e w3 ⟨rfl,rfl⟩)
   | (refine Ay rfl rfl (.tmp 6) (.tmp 18) rfl B2 slt0 rfl rfl ?_))
  change bodyPost _ _ _ _ _ (Ac w2 r slt0)
  obtain ⟨B6,hc6⟩:=Ab B2 slt0
  have hT6:=DTo.fin hXlt.out hb1 hT5.out hc6 (Nat.le_of_eq hr) (by omega)
  generalize Ac w2 r slt0=w6 at *
  clear B2
  obtain ⟨r0,r1,r2,r3,r4,r5,r6,r7,r8,r9,r10,r11,r12,r13,-⟩:=AB B6
  clear B6 hc6
  replace hT6:=Lib.hid hT6
  refine bodyPost_ret (v:=.tuple #[(slt0).val,.bool false]) (by simp [results,Tryz.results89,go_sem,r0,r1,r2,r3,r4,r5,r6,r7,r8,r9,r10,r11,r12,r13]) rfl ?_
  exact ⟨by rw [hV.out,hO1.out],by rw [hS.out];exact hT6.out⟩
end
theorem Mi (c:TCfg) (n:Nat) (s:TSt) (k:Nat) (l:List Int) (t:Tup) (bk fl:Int):Ct c (Cu n s k l t bk fl) k={ lookS n k { s with L:=l } with E:=updE (lookS n k { s with L:=l }).E k { openX (s.E k) t bk fl with due:=dueT c s.now (BJ t.p fl) },M:=lmPut (lookS n k { s with L:=l }).M k (dueT c s.now (BJ t.p fl)) }:=by
 unfold Ct Cu
 rw [Int.toNat_natCast]
 dsimp only
 rw [Az,Ad,AQ,Dm]
 rfl
section
variable {w w' w1 w2:World} {g n:Nat} {b:Int} {c:TCfg} {s:TSt} {X X1 X2 F:Nat→Prop}
set_option maxRecDepth 100000 in
set_option maxHeartbeats 16000000 in
theorem NQ (h:DTabP w g n b c (dOf n s) X) (hti:TI n s) (hI:c.right) (t:Tup) (bk fl:Int) :
  Calls Tryz.prog 82 #[.pointer (some ⟨g,0,none⟩),t.val,.int .i64 bk,.int .i64 fl] w fun e w'=>e=.returned (.tuple #[(openV c s t bk fl).val,.int .i64 (openE s t bk fl)])∧DTo w w' g n b c (dOf n (openS c n s t bk fl)) X:=by
 have hn:=h.n4096
 have hXlt:∀ y,X y→y<w.heap.size:=fun y hy=>h.lt hy
 have P0:=Blk.new w 47 t.cells.toArray
 have hb0:Below w.heap.size w (w.alloc (.cells t.cells.toArray 47)):=Aa (Below.refl _ _) _
 have B1:=Blk.new (w.alloc (.cells t.cells.toArray 47)) 52 slt0.entA
 have hb1:Below w.heap.size w ((w.alloc (.cells t.cells.toArray 47)).alloc (.cells slt0.entA 52)):=Aa hb0 _
 have P1:=P0.alloc (.cells slt0.entA 52)
 have h1:=h.call hb1
 have hzz:=B1.lt
 rw [World.size_alloc] at B1 hzz
 clear h hb0 P0
 replace hI:=Lib.hid hI
 replace B1:=Lib.hid B1
 replace hti:=Lib.hid hti
 replace hXlt:=Lib.hid hXlt
 replace h1:=Lib.hid h1
 go_enter Tryz.func82,Tryz.ntmps82
 go_upto_region 1 with fail
 change Code.wp _ _ _ _ ((w.alloc (.cells t.cells.toArray 47)).alloc (.cells slt0.entA 52))
 obtain ⟨r,hr⟩:∃ r,w.heap.size+1=r:=⟨_,rfl⟩
 obtain ⟨p,hp⟩:∃ p,w.heap.size=p:=⟨_,rfl⟩
 rw [hr] at B1 hzz
 rw [hp] at P1
 generalize (w.alloc (.cells t.cells.toArray 47)).alloc (.cells slt0.entA 52)=w1 at *
 try rw [hr]
 try rw [hp]
 have BG:=Lib.hid fun W=>Kg t.p fl W
 have TR:=Lib.hid (EG t w1)
 have hpw:p<w1.heap.size:=P1.lt
 have p0:w1.cell? ⟨p,0,none⟩=some (.int .i64 t.p):=P1.cell 0
 have p1:w1.cell? ⟨p,1,none⟩=some (.bool t.v):=P1.cell 1
 have p2:w1.cell? ⟨p,2,none⟩=some (.int .u64 t.hi):=P1.cell 2
 have p3:w1.cell? ⟨p,3,none⟩=some (.int .u64 t.lo):=P1.cell 3
 have p4:w1.cell? ⟨p,4,none⟩=some (.bool t.v'):=P1.cell 4
 have p5:w1.cell? ⟨p,5,none⟩=some (.int .u64 t.hi'):=P1.cell 5
 have p6:w1.cell? ⟨p,6,none⟩=some (.int .u64 t.lo'):=P1.cell 6
 have p7:w1.cell? ⟨p,7,none⟩=some (.int .i64 t.sp):=P1.cell 7
 have p8:w1.cell? ⟨p,8,none⟩=some (.int .i64 t.dp):=P1.cell 8
 obtain ⟨st,hst⟩:∃ st,BJ t.p fl=st:=⟨_,rfl⟩
 obtain ⟨tk,htk⟩:∃ tk,tupOk t=tk:=⟨_,rfl⟩
 rw [hst] at BG
 rw [htk] at TR
 by_cases hok:Bh t bk fl=true
 ·
  have ho2:=hok
  unfold Bh at ho2
  rw [hst,htk] at ho2
  simp only [Bool.and_eq_true,decide_eq_true_eq,Bool.not_eq_true'] at ho2
  obtain ⟨⟨rfl,hbk⟩,hst0⟩:=ho2
  have x1:decide (bk<0)=false:=by simp;omega
  have x2:decide (65535<bk)=false:=by simp;omega
  go_upto_region 4 with (first
   | (go_at_call 150;(with_reducible refine (BG.out _).mono ?_);rintro e w8 ⟨rfl,rfl⟩)
   | (go_at_call 151;(with_reducible refine TR.out.mono ?_);rintro e w2 ⟨rfl,hb2⟩))
  have h2:=h1.out.call hb2
  have B2:=B1.out.call hb2
  have P2:=P1.call hb2
  have hzz2:=hb2.size
  have hT2:XTo w1 w2 X X:=XTo.call hb2
  clear BG TR p0 p1 p2 p3 p4 p5 p6 p7 p8 x1 x2 hb2
  have hLl:s.L.length≤1000000:=by have:=Cm hti.out;omega
  obtain ⟨fs,c5,PO⟩:=Rq h2 hLl
  replace PO:=Lib.hid PO
  clear h2
  replace hT2:=Lib.hid hT2
  cases hL:s.L with
  | nil =>
   have eS:({ dOf n s with L:=[] }:DTs)=dOf n s:=by rw [← hL]
   have hO:openE s t bk fl=9:=by unfold openE;rw [hok,hL];rfl
   have hV:openV c s t bk fl=slt0:=by unfold openV;rw [hok,hL];rfl
   have hS:openS c n s t bk fl=s:=by unfold openS;rw [hok,hL];rfl
   dsimp only [dOf] at PO
   rw [hL] at PO
   replace eS:=Lib.hid eS
   replace hS:=Lib.hid hS
   replace hV:=Lib.hid hV
   replace hO:=Lib.hid hO
   replace hL:=Lib.hid hL
   go_upto_region 5 with (go_at_call 152;(with_reducible refine PO.out.mono ?_);rintro e w3 ⟨rfl,X3,h3,k3⟩)
   have B3:=B2.chg k3.1 (fun e=>by have:=hXlt.out _ e;omega)
   have hT3:DTo w1 w3 g n b c (dOf n s) X:=DTo.mk (by rw [← eS.out];exact h3) (hT2.out.trans k3)
   replace hT3:=Lib.hid hT3
   clear h3 k3 PO c5 B2 P2 P1
   go_wp2_with (refine Ay rfl rfl (.tmp 8) (.tmp 44) rfl B3 slt0 rfl rfl ?_)
   change bodyPost _ _ _ _ _ (Ac w3 r slt0)
   obtain ⟨B6,hc6⟩:=Ab B3 slt0
   have hTz:=DTo.fin hXlt.out hb1 hT3.out hc6 (by omega) (by omega)
   generalize Ac w3 r slt0=wz at *
   obtain ⟨r0,r1,r2,r3,r4,r5,r6,r7,r8,r9,r10,r11,r12,r13,-⟩:=AB B6
   clear B6 hc6
   replace hTz:=Lib.hid hTz
   refine bodyPost_ret (v:=.tuple #[(slt0).val,.int .i64 9]) (by simp [results,Tryz.results82,go_sem,r0,r1,r2,r3,r4,r5,r6,r7,r8,r9,r10,r11,r12,r13]) rfl ?_
   exact ⟨by rw [hV.out,hO.out],by rw [hS.out];exact hTz.out⟩
  | cons i0 l =>
   have hi0:=hti.out.rng i0 (by rw [hL];exact List.mem_cons_self)
   obtain ⟨k,rfl⟩:∃ k:Nat,i0=(k:Int):=⟨i0.toNat,by omega⟩
   have hk:k<n:=by omega
   have hsl:=hti.out.sl k hk
   have hO:openE s t bk fl=0:=by unfold openE;rw [hok,hL];rfl
   have hV:openV c s t bk fl={ openX (s.E k) t bk fl with due:=dueT c s.now (BJ t.p fl) }:=by unfold openV;rw [hok,hL];rfl
   have hS:openS c n s t bk fl={ lookS n k { s with L:=l } with E:=updE (lookS n k { s with L:=l }).E k { openX (s.E k) t bk fl with due:=dueT c s.now (BJ t.p fl) },M:=lmPut (lookS n k { s with L:=l }).M k (dueT c s.now (BJ t.p fl)) }:=by
    unfold openS
    rw [hok,hL]
    exact Mi c n s k l t bk fl
   have hsl2:∀ q:Nat,q<n→((lookS n k { s with L:=l }).E q).sl=q:=fun q hq=>by rw [AQ];exact hti.out.sl q hq
   have hPT:=P8 (s:=lookS n k { s with L:=l }) hsl2 k hk { openX (s.E k) t bk fl with due:=dueT c s.now (BJ t.p fl) } rfl hsl (by rw [AQ];rfl)
   have hsrt:=Dh (E:=(lookS n k { s with L:=l }).E) n hsl2
   have hn2:=Nat.le_trans (Cn (lookS n k { s with L:=l }).E n) hn
   have hM2:(lookS n k { s with L:=l }).M.length≤100000:=by rw [Kv];exact hti.out.mlen5 hn
   dsimp only [dOf] at PO
   rw [hL] at PO
   simp only [List.headD_cons,List.isEmpty_cons,Bool.not_false,List.tail_cons] at PO
   rw [hst] at hV hS hPT
   have hid:=hI.out st
   obtain ⟨gk,hgk⟩:∃ v,(s.E k).gen=v:=⟨_,rfl⟩
   obtain ⟨y,hy⟩:∃ y,({ openX (s.E k) t bk fl with due:=dueT c s.now st }:Slt)=y:=⟨_,rfl⟩
   have hyE:y=⟨t,bk,st,(k:Int),gk,dueT c s.now st,true⟩:=by
    rw [← hy]
    unfold openX
    rw [hst,hsl,hgk]
   rw [hy] at hV hS hPT
   replace hS:=Lib.hid hS
   replace hV:=Lib.hid hV
   replace hO:=Lib.hid hO
   replace hL:=Lib.hid hL
   replace hPT:=Lib.hid hPT
   replace hyE:=Lib.hid hyE
   replace hsrt:=Lib.hid hsrt
   replace hn2:=Lib.hid hn2
   replace hM2:=Lib.hid hM2
   clear hy hsl hsl2 hst
   go_upto_region 5 with (go_at_call 152;(with_reducible refine PO.out.mono ?_);rintro e w3 ⟨rfl,X3,h3,k3⟩)
   have h3':DTabP w3 g n b c (dOf n { s with L:=l }) X3:=h3
   have LK:=Lib.hid (FF h3' k)
   have B3:=B2.chg k3.1 (fun e=>by have:=hXlt.out _ e;omega)
   have P3:=P2.chg k3.1 (fun e=>by have:=hXlt.out _ e;omega)
   have hnr:¬ X3 r:=fun hx=>(k3.2 _ hx).elim (fun h=>by have:=hXlt.out _ h;omega) (fun h=>by omega)
   have hnp:¬ X3 p:=fun hx=>(k3.2 _ hx).elim (fun h=>by have:=hXlt.out _ h;omega) (fun h=>by omega)
   have hT3:=Lib.hid (hT2.out.trans k3)
   clear h3 k3 PO c5 B2 P2 P1
   go_upto_region 8 with (go_at_call 153;(with_reducible refine LK.out.mono ?_);rintro e w4 ⟨rfl,h4,hc4⟩)
   have B4:=B3.chg hc4 hnr
   have P4:=P3.chg hc4 hnp
   have hT4:=Lib.hid (hT3.out.trans (XTo.of hc4))
   obtain ⟨u1,u2,u3,u4,hG,hnow⟩:=h4.rule
   obtain ⟨_,wg,gb,_,_,-,c6,-,c8,-,-,-,hGr,cw,-⟩:=h4.cells
   have cg:=hGr.cell hk
   dsimp only [dOf] at cw hnow cg
   rw [Dm] at cw hnow
   rw [AQ] at cg
   dsimp only at cw hnow cg
   rw [hgk] at cg
   have p0:w4.cell? ⟨p,0,none⟩=some (.int .i64 t.p):=P4.cell 0
   have p1:w4.cell? ⟨p,1,none⟩=some (.bool t.v):=P4.cell 1
   have p2:w4.cell? ⟨p,2,none⟩=some (.int .u64 t.hi):=P4.cell 2
   have p3:w4.cell? ⟨p,3,none⟩=some (.int .u64 t.lo):=P4.cell 3
   have p4:w4.cell? ⟨p,4,none⟩=some (.bool t.v'):=P4.cell 4
   have p5:w4.cell? ⟨p,5,none⟩=some (.int .u64 t.hi'):=P4.cell 5
   have p6:w4.cell? ⟨p,6,none⟩=some (.int .u64 t.lo'):=P4.cell 6
   have p7:w4.cell? ⟨p,7,none⟩=some (.int .i64 t.sp):=P4.cell 7
   have p8:w4.cell? ⟨p,8,none⟩=some (.int .i64 t.dp):=P4.cell 8
   have hwr:IntKind.i64.wrap (s.now+idleS c.a c.b c.c c.d st)=dueT c s.now st:=by unfold dueT;simp [IntKind.wrap,IntKind.bits,IntKind.signed];omega
   have hdr:0≤dueT c s.now st∧dueT c s.now st≤2199023255552:=by unfold dueT;omega
   have ID:=Lib.hid fun W=>H7 c.a c.b c.c c.d st W
   generalize dueT c s.now st=due at *
   generalize idleS c.a c.b c.c c.d st=idl at *
   have SB:=Lib.hid fun W (hb:Below w4.heap.size w4 W)=>show (Below w4.heap.size w4 W∧W.cell? ⟨p,0,none⟩=some (.int .i64 t.p)∧W.cell? ⟨p,1,none⟩=some (.bool t.v)∧W.cell? ⟨p,2,none⟩=some (.int .u64 t.hi)∧W.cell? ⟨p,3,none⟩=some (.int .u64 t.lo)∧W.cell? ⟨p,4,none⟩=some (.bool t.v')∧W.cell? ⟨p,5,none⟩=some (.int .u64 t.hi')∧W.cell? ⟨p,6,none⟩=some (.int .u64 t.lo')∧W.cell? ⟨p,7,none⟩=some (.int .i64 t.sp)∧W.cell? ⟨p,8,none⟩=some (.int .i64 t.dp)∧W.cell? ⟨g,1,none⟩=some (.int .i64 c.a)∧W.cell? ⟨g,2,none⟩=some (.int .i64 c.b)∧W.cell? ⟨g,3,none⟩=some (.int .i64 c.c)∧W.cell? ⟨g,4,none⟩=some (.int .i64 c.d)∧W.cell? ⟨g,6,none⟩=some (.pointer (some ⟨wg,0,none⟩))∧W.cell? ⟨g,8,none⟩=some (.slice (some ⟨gb,0,none⟩) n n)∧W.cell? ⟨wg,1,none⟩=some (.int .i64 s.now)∧W.cell? ⟨gb,k,none⟩=some (.int .u64 gk)) from
    ⟨hb,(hb.cell (A0 p0)).trans p0,(hb.cell (A0 p1)).trans p1,(hb.cell (A0 p2)).trans p2,(hb.cell (A0 p3)).trans p3,(hb.cell (A0 p4)).trans p4,(hb.cell (A0 p5)).trans p5,(hb.cell (A0 p6)).trans p6,(hb.cell (A0 p7)).trans p7,(hb.cell (A0 p8)).trans p8,(hb.cell (A0 u1)).trans u1,(hb.cell (A0 u2)).trans u2,(hb.cell (A0 u3)).trans u3,(hb.cell (A0 u4)).trans u4,(hb.cell (A0 c6)).trans c6,(hb.cell (A0 c8)).trans c8,(hb.cell (A0 cw)).trans cw,(hb.cell (A0 cg)).trans cg⟩
   have hb0:Below w4.heap.size w4 w4.drew:=(Below.refl _ _).drew
   have hbz:Below w4.heap.size w4 (w4.alloc (.cells #[.int .i64 0,.bool false,.int .u64 0,.int .u64 0,.bool false,.int .u64 0,.int .u64 0,.int .i64 0,.int .i64 0,.int .i64 0,.int .i64 0,.int .i64 0,.int .u64 0,.int .i64 0] 52)).drew:=(Aa (Below.refl _ _) _).drew
   have hBz:Blk (w4.alloc (.cells #[.int .i64 0,.bool false,.int .u64 0,.int .u64 0,.bool false,.int .u64 0,.int .u64 0,.int .i64 0,.int .i64 0,.int .i64 0,.int .i64 0,.int .i64 0,.int .u64 0,.int .i64 0] 52)).drew w4.heap.size 52 slt0.entA:=Blk.new w4 52 slt0.entA
   have hS0:=SB.out _ hb0
   have hki:(k:Int)<(n:Int):=by omega
   have hk0:(0:Int)≤(k:Int):=by omega
   replace h4:=Lib.hid h4
   replace B4:=Lib.hid B4
   replace P4:=Lib.hid P4
   replace hwr:=Lib.hid hwr
   replace hBz:=Lib.hid hBz
   clear hGr hgk LK hc4 B3 P3 h3' p0 p1 p2 p3 p4 p5 p6 p7 p8 u1 u2 u3 u4 c6 c8 cw cg
   go_upto_region 8 with fail
   have hSz:=SB.out _ hbz
   go_region_held3 (fun W=>Below w4.heap.size w4 W∧W.cell? ⟨p,0,none⟩=some (.int .i64 t.p)∧W.cell? ⟨p,1,none⟩=some (.bool t.v)∧W.cell? ⟨p,2,none⟩=some (.int .u64 t.hi)∧W.cell? ⟨p,3,none⟩=some (.int .u64 t.lo)∧W.cell? ⟨p,4,none⟩=some (.bool t.v')∧W.cell? ⟨p,5,none⟩=some (.int .u64 t.hi')∧W.cell? ⟨p,6,none⟩=some (.int .u64 t.lo')∧W.cell? ⟨p,7,none⟩=some (.int .i64 t.sp)∧W.cell? ⟨p,8,none⟩=some (.int .i64 t.dp)∧W.cell? ⟨g,1,none⟩=some (.int .i64 c.a)∧W.cell? ⟨g,2,none⟩=some (.int .i64 c.b)∧W.cell? ⟨g,3,none⟩=some (.int .i64 c.c)∧W.cell? ⟨g,4,none⟩=some (.int .i64 c.d)∧W.cell? ⟨g,6,none⟩=some (.pointer (some ⟨wg,0,none⟩))∧W.cell? ⟨g,8,none⟩=some (.slice (some ⟨gb,0,none⟩) n n)∧W.cell? ⟨wg,1,none⟩=some (.int .i64 s.now)∧W.cell? ⟨gb,k,none⟩=some (.int .u64 gk)) ((show _∧_;with_reducible assumption)) (first
    | (go_at_call 154;(with_reducible refine (ID.out _).mono ?_);rintro e w5 ⟨rfl,hb5⟩;have hb6:=A8 hb5 hb0;have hS5:=SB.out _ hb6;have hSa:=SB.out _ (Aa hb6 (.cells #[.int .i64 0,.bool false,.int .u64 0,.int .u64 0,.bool false,.int .u64 0,.int .u64 0,.int .i64 0,.int .i64 0,.int .i64 0,.int .i64 0,.int .i64 0,.int .u64 0,.int .i64 0] 52));have hSb:=SB.out _ (Aa hb6 (.cells #[.int .i64 t.p,.bool t.v,.int .u64 t.hi,.int .u64 t.lo,.bool t.v',.int .u64 t.hi',.int .u64 t.lo',.int .i64 t.sp,.int .i64 t.dp,.int .i64 bk,.int .i64 st,.int .i64 (k:Int),.int .u64 gk,.int .i64 (IntKind.i64.wrap (s.now+idl))] 52)))
    | (go_at_call 154;(with_reducible refine (ID.out _).mono ?_);rintro e w5 ⟨rfl,hb5⟩;have hb6:=A8 hb5 hbz;have hS5:=SB.out _ hb6;have hB5:=hBz.out.call hb5;obtain ⟨r0,r1,r2,r3,r4,r5,r6,r7,r8,r9,r10,r11,r12,r13,rf⟩:=AB hB5;have hSc:=SB.out (Ac w5 w4.heap.size ⟨t,bk,st,(k:Int),gk,IntKind.i64.wrap (s.now+idl),true⟩) (Ar hb6 (Ab hB5 _).2 (fun q hq e=>by have e2:q=w4.heap.size:=e;omega) hb6.size)))
   rotate_left
   ·
    rw [hwr.out]
    change Exit.then _ _ _ _ (Ac w5 w4.heap.size ⟨t,bk,st,(k:Int),gk,due,true⟩)
    rw [← hyE.out]
    have hBy:=(Ab hB5 y).1
    have hby:=Ar hb6 (Ab hB5 y).2 (fun q hq e=>by have e2:q=w4.heap.size:=e;omega) hb6.size
    clear hS5 hSc hB5 rf r0 r1 r2 r3 r4 r5 r6 r7 r8 r9 r10 r11 r12 r13 hb6
    generalize Ac w5 w4.heap.size y=wq at *
    have hr3:w4.heap.size≤w4.heap.size:=Nat.le_refl _
    obtain ⟨r3,hr3e⟩:∃ r3,w4.heap.size=r3:=⟨_,rfl⟩
    rw [hr3e] at hBy
    try rw [hr3e]
    have hr3:w4.heap.size≤r3:=Nat.le_of_eq hr3e
    have h5:=h4.out.call hby
    have PU:=Lib.hid (IC h5 hsrt.out hn2.out y)
    have hT5:=Lib.hid (hT4.out.trans (XTo.call hby))
    have hBr:=B4.out.call hby
    have hbyz:=hby.size
    have hrw:=hBr.lt
    have h4lt:=Lib.hid (fun (hx:X3 r3)=>h4.out.lt hx)
    clear h5 hby hS0 hSz SB ID hb0 hbz hBz hwr P4 B4
    go_upto_region 10 with (first
     | (refine Am rfl (.tmp 13) rfl ⟨r3,0,none⟩ rfl y (D7 hBy) ?_)
     | (go_at_call 155;(with_reducible refine PU.out.mono ?_);rintro e w8 ⟨rfl,X8,h8,k8⟩))
    have hd8:Below w8.heap.size w8 w8.drew:=(Below.refl _ _).drew
    have k9:XTo w1 w8.drew X X8:=(hT5.out.trans k8).trans (XTo.call hd8)
    have hn3:¬ X3 r3:=fun hx=>by have:=h4lt.out hx;omega
    have hB8:=(hBy.chg k8.1 hn3).call hd8
    have hB8r:=(hBr.chg k8.1 hnr).call hd8
    have hn2X:¬ X8 r3:=fun hx=>(k8.2 _ hx).elim hn3 (fun h=>Nat.lt_irrefl _ (Nat.lt_of_lt_of_le hBy.lt h))
    have hnrX:¬ X8 r:=fun hx=>(k8.2 _ hx).elim hnr (fun h=>Nat.lt_irrefl _ (Nat.lt_of_lt_of_le hrw h))
    have h9:=h8.call hd8
    obtain ⟨wg9,c6,ST⟩:=IE h9 (by exact hM2.out) k (by omega) due hdr
    have d13:w8.drew.cell? ⟨r3,13,none⟩=some (.int .i64 due):=by
     have:=hB8.cell 13
     rw [hyE.out] at this
     exact this
    replace ST:=Lib.hid ST
    replace k9:=Lib.hid k9
    replace hB8:=Lib.hid hB8
    replace hB8r:=Lib.hid hB8r
    clear PU hBy hBr h8 k8 h9 hd8 hT5 h4lt
    have c6':w8.cell? ⟨g,6,none⟩=some (.pointer (some ⟨wg9,0,none⟩)):=c6
    have d13':w8.cell? ⟨r3,13,none⟩=some (.int .i64 due):=d13
    go_still_tail 7,(by kernel_rfl)
    change wpList _ _ _ _ _ w8.drew
    clear c6' d13'
    generalize w8.drew=w9 at *
    go_upto_region 11 with (go_at_call 156;(with_reducible refine ST.out.mono ?_);rintro e wa ⟨rfl,Xa,ha,ka⟩)
    have hBa:=hB8.out.chg ka.1 hn2X
    have hBar:=hB8r.out.chg ka.1 hnrX
    have hTa:DTo w1 wa g n b c (dOf n (openS c n s t bk fl)) X:=DTo.mk (by rw [hS.out,← hPT.out];exact ha) (k9.out.trans ka)
    replace hTa:=Lib.hid hTa
    clear ha ka ST hB8 hB8r c6 d13
    go_wp2_with (first
     | (refine Am rfl (.tmp 13) rfl ⟨r3,0,none⟩ rfl y (D7 hBa) ?_)
     | (refine Ay rfl rfl (.tmp 8) (.tmp 85) rfl hBar y rfl rfl ?_))
    change bodyPost _ _ _ _ _ (Ac wa r y)
    obtain ⟨B6,hc6⟩:=Ab hBar y
    have hTz:=DTo.fin hXlt.out hb1 hTa.out hc6 (by omega) (by omega)
    generalize Ac wa r y=wz at *
    obtain ⟨r0,r1,r2,r3,r4,r5,r6,r7,r8,r9,r10,r11,r12,r13,-⟩:=AB B6
    clear B6 hc6
    replace hTz:=Lib.hid hTz
    refine bodyPost_ret (v:=.tuple #[(y).val,.int .i64 0]) (by simp [results,Tryz.results82,go_sem,r0,r1,r2,r3,r4,r5,r6,r7,r8,r9,r10,r11,r12,r13]) rfl ?_
    exact ⟨by rw [hV.out,hO.out],hTz.out⟩
   ·
    rw [hwr.out]
    have hBy:Blk (w5.alloc (.cells #[.int .i64 t.p,.bool t.v,.int .u64 t.hi,.int .u64 t.lo,.bool t.v',.int .u64 t.hi',.int .u64 t.lo',.int .i64 t.sp,.int .i64 t.dp,.int .i64 bk,.int .i64 st,.int .i64 (k:Int),.int .u64 gk,.int .i64 due] 52)) w5.heap.size 52 y.entA:=by
     rw [hyE.out]
     exact Blk.new w5 52 #[.int .i64 t.p,.bool t.v,.int .u64 t.hi,.int .u64 t.lo,.bool t.v',.int .u64 t.hi',.int .u64 t.lo',.int .i64 t.sp,.int .i64 t.dp,.int .i64 bk,.int .i64 st,.int .i64 (k:Int),.int .u64 gk,.int .i64 due]
    have hby:Below w4.heap.size w4 (w5.alloc (.cells #[.int .i64 t.p,.bool t.v,.int .u64 t.hi,.int .u64 t.lo,.bool t.v',.int .u64 t.hi',.int .u64 t.lo',.int .i64 t.sp,.int .i64 t.dp,.int .i64 bk,.int .i64 st,.int .i64 (k:Int),.int .u64 gk,.int .i64 due] 52)):=Aa hb6 _
    have hr3:w4.heap.size≤w5.heap.size:=hb6.size
    clear hS5 hSa hSb hb6
    generalize w5.alloc (.cells #[.int .i64 t.p,.bool t.v,.int .u64 t.hi,.int .u64 t.lo,.bool t.v',.int .u64 t.hi',.int .u64 t.lo',.int .i64 t.sp,.int .i64 t.dp,.int .i64 bk,.int .i64 st,.int .i64 (k:Int),.int .u64 gk,.int .i64 due] 52)=wq at *
    generalize w5.heap.size=r3 at *
    have h5:=h4.out.call hby
    have PU:=Lib.hid (IC h5 hsrt.out hn2.out y)
    have hT5:=Lib.hid (hT4.out.trans (XTo.call hby))
    have hBr:=B4.out.call hby
    have hbyz:=hby.size
    have hrw:=hBr.lt
    have h4lt:=Lib.hid (fun (hx:X3 r3)=>h4.out.lt hx)
    clear h5 hby hS0 hSz SB ID hb0 hbz hBz hwr P4 B4
    go_upto_region 10 with (first
     | (refine Am rfl (.tmp 13) rfl ⟨r3,0,none⟩ rfl y (D7 hBy) ?_)
     | (go_at_call 155;(with_reducible refine PU.out.mono ?_);rintro e w8 ⟨rfl,X8,h8,k8⟩))
    have hd8:Below w8.heap.size w8 w8.drew:=(Below.refl _ _).drew
    have k9:XTo w1 w8.drew X X8:=(hT5.out.trans k8).trans (XTo.call hd8)
    have hn3:¬ X3 r3:=fun hx=>by have:=h4lt.out hx;omega
    have hB8:=(hBy.chg k8.1 hn3).call hd8
    have hB8r:=(hBr.chg k8.1 hnr).call hd8
    have hn2X:¬ X8 r3:=fun hx=>(k8.2 _ hx).elim hn3 (fun h=>Nat.lt_irrefl _ (Nat.lt_of_lt_of_le hBy.lt h))
    have hnrX:¬ X8 r:=fun hx=>(k8.2 _ hx).elim hnr (fun h=>Nat.lt_irrefl _ (Nat.lt_of_lt_of_le hrw h))
    have h9:=h8.call hd8
    obtain ⟨wg9,c6,ST⟩:=IE h9 (by exact hM2.out) k (by omega) due hdr
    have d13:w8.drew.cell? ⟨r3,13,none⟩=some (.int .i64 due):=by
     have:=hB8.cell 13
     rw [hyE.out] at this
     exact this
    replace ST:=Lib.hid ST
    replace k9:=Lib.hid k9
    replace hB8:=Lib.hid hB8
    replace hB8r:=Lib.hid hB8r
    clear PU hBy hBr h8 k8 h9 hd8 hT5 h4lt
    have c6':w8.cell? ⟨g,6,none⟩=some (.pointer (some ⟨wg9,0,none⟩)):=c6
    have d13':w8.cell? ⟨r3,13,none⟩=some (.int .i64 due):=d13
    go_still_tail 7,(by kernel_rfl)
    change wpList _ _ _ _ _ w8.drew
    clear c6' d13'
    generalize w8.drew=w9 at *
    go_upto_region 11 with (go_at_call 156;(with_reducible refine ST.out.mono ?_);rintro e wa ⟨rfl,Xa,ha,ka⟩)
    have hBa:=hB8.out.chg ka.1 hn2X
    have hBar:=hB8r.out.chg ka.1 hnrX
    have hTa:DTo w1 wa g n b c (dOf n (openS c n s t bk fl)) X:=DTo.mk (by rw [hS.out,← hPT.out];exact ha) (k9.out.trans ka)
    replace hTa:=Lib.hid hTa
    clear ha ka ST hB8 hB8r c6 d13
    go_wp2_with (first
     | (refine Am rfl (.tmp 13) rfl ⟨r3,0,none⟩ rfl y (D7 hBa) ?_)
     | (refine Ay rfl rfl (.tmp 8) (.tmp 85) rfl hBar y rfl rfl ?_))
    change bodyPost _ _ _ _ _ (Ac wa r y)
    obtain ⟨B6,hc6⟩:=Ab hBar y
    have hTz:=DTo.fin hXlt.out hb1 hTa.out hc6 (by omega) (by omega)
    generalize Ac wa r y=wz at *
    obtain ⟨r0,r1,r2,r3,r4,r5,r6,r7,r8,r9,r10,r11,r12,r13,-⟩:=AB B6
    clear B6 hc6
    replace hTz:=Lib.hid hTz
    refine bodyPost_ret (v:=.tuple #[(y).val,.int .i64 0]) (by simp [results,Tryz.results82,go_sem,r0,r1,r2,r3,r4,r5,r6,r7,r8,r9,r10,r11,r12,r13]) rfl ?_
    exact ⟨by rw [hV.out,hO.out],hTz.out⟩
 ·
  have hok':Bh t bk fl=false:=by simpa using hok
  have hO:openE s t bk fl=1:=by unfold openE;rw [hok'];rfl
  have hV:openV c s t bk fl=slt0:=by unfold openV;rw [hok'];rfl
  have hS:openS c n s t bk fl=s:=by unfold openS;rw [hok'];rfl
  have ho2:=hok'
  unfold Bh at ho2
  rw [hst,htk] at ho2
  simp only [Bool.and_eq_false_iff,decide_eq_false_iff_not,Bool.not_eq_false'] at ho2
  replace hS:=Lib.hid hS
  replace hV:=Lib.hid hV
  replace hO:=Lib.hid hO
  clear hok hok' hst htk
  cases tk
  case' false=>clear ho2
  case' true =>
   by_cases b1:bk<0
   case' pos =>
    have x1:decide (bk<0)=true:=by simpa using b1
    clear ho2
   case' neg =>
    have x1:decide (bk<0)=false:=by simpa using b1
    by_cases b2:65535<bk
    case' pos =>
     have x2:decide (65535<bk)=true:=by simpa using b2
     clear ho2
    case' neg =>
     have x2:decide (65535<bk)=false:=by simpa using b2
     have x3:(st==0)=true:=by
      rcases ho2 with (h | h) | h
      · cases h
      · omega
      · exact h
     clear ho2
  all_goals
   go_upto_region 3 with (first
    | (go_at_call 150;(with_reducible refine (BG.out _).mono ?_);rintro e w8 ⟨rfl,rfl⟩)
    | (go_at_call 151;(with_reducible refine TR.out.mono ?_);rintro e w2 ⟨rfl,hb2⟩))
   have hT3:DTo w1 w2 g n b c (dOf n s) X:=DTo.mk (h1.out.call hb2) (XTo.call hb2)
   have B3:=B1.out.call hb2
   have hz2:=hb2.size
   clear BG TR p0 p1 p2 p3 p4 p5 p6 p7 p8 hb2 h1
   replace hT3:=Lib.hid hT3
   go_wp2_with (refine Ay rfl rfl (.tmp 8) (.tmp 33) rfl B3 slt0 rfl rfl ?_)
   change bodyPost _ _ _ _ _ (Ac w2 r slt0)
   obtain ⟨B6,hc6⟩:=Ab B3 slt0
   have hTz:=DTo.fin hXlt.out hb1 hT3.out hc6 (by omega) (by omega)
   generalize Ac w2 r slt0=wz at *
   obtain ⟨r0,r1,r2,r3,r4,r5,r6,r7,r8,r9,r10,r11,r12,r13,-⟩:=AB B6
   clear B6 hc6
   replace hTz:=Lib.hid hTz
   refine bodyPost_ret (v:=.tuple #[(slt0).val,.int .i64 1]) (by simp [results,Tryz.results82,go_sem,r0,r1,r2,r3,r4,r5,r6,r7,r8,r9,r10,r11,r12,r13]) rfl ?_
   exact ⟨by rw [hV.out,hO.out],by rw [hS.out];exact hTz.out⟩
end
section
variable {w w' w1 w2:World} {g n:Nat} {b:Int} {c:TCfg} {s:TSt} {X X1 X2 F:Nat→Prop}
set_option maxRecDepth 100000 in
set_option maxHeartbeats 16000000 in
theorem NR (h:DTabP w g n b c (dOf n s) X) (hti:TI n s) (t:Tup) (i low bt:Int) :
  Calls Tryz.prog 87 #[.pointer (some ⟨g,0,none⟩),t.val,.int .i64 i,.int .u64 low,.int .i64 bt] w fun e w'=>e=.returned (.tuple #[(findV n s t i low bt).val,.bool (Be n s t i low bt)])∧DTo w w' g n b c (dOf n (lookS n i s)) X:=by
 have hn:=h.n4096
 have hXlt:∀ y,X y→y<w.heap.size:=fun y hy=>h.lt hy
 have P0:=Blk.new w 47 t.cells.toArray
 have hb0:Below w.heap.size w (w.alloc (.cells t.cells.toArray 47)):=Aa (Below.refl _ _) _
 have B1:=Blk.new (w.alloc (.cells t.cells.toArray 47)) 52 slt0.entA
 have hb1:Below w.heap.size w ((w.alloc (.cells t.cells.toArray 47)).alloc (.cells slt0.entA 52)):=Aa hb0 _
 have P1:=P0.alloc (.cells slt0.entA 52)
 have h1:=h.call hb1
 have hzz:=B1.lt
 rw [World.size_alloc] at B1 hzz
 clear h hb0 P0
 replace B1:=Lib.hid B1
 replace hti:=Lib.hid hti
 replace hXlt:=Lib.hid hXlt
 replace h1:=Lib.hid h1
 go_enter Tryz.func87,Tryz.ntmps87
 go_upto_region 1 with fail
 change Code.wp _ _ _ _ ((w.alloc (.cells t.cells.toArray 47)).alloc (.cells slt0.entA 52))
 obtain ⟨r,hr⟩:∃ r,w.heap.size+1=r:=⟨_,rfl⟩
 obtain ⟨p,hp⟩:∃ p,w.heap.size=p:=⟨_,rfl⟩
 rw [hr] at B1 hzz
 rw [hp] at P1
 generalize (w.alloc (.cells t.cells.toArray 47)).alloc (.cells slt0.entA 52)=w1 at *
 try rw [hr]
 try rw [hp]
 have LK:=Lib.hid (FF h1.out i)
 go_upto_region 2 with (go_at_call 153;(with_reducible refine LK.out.mono ?_);rintro e w2 ⟨rfl,h2,hc2⟩)
 have B2:=B1.out.chg hc2 (fun e=>by have:=hXlt.out r e;omega)
 have P2:=P1.chg hc2 (fun e=>by have:=hXlt.out p e;omega)
 have hT2:=XTo.of hc2
 have hz2:=hc2.size
 have p0:w2.cell? ⟨p,0,none⟩=some (.int .i64 t.p):=P2.cell 0
 have p1:w2.cell? ⟨p,1,none⟩=some (.bool t.v):=P2.cell 1
 have p2:w2.cell? ⟨p,2,none⟩=some (.int .u64 t.hi):=P2.cell 2
 have p3:w2.cell? ⟨p,3,none⟩=some (.int .u64 t.lo):=P2.cell 3
 have p4:w2.cell? ⟨p,4,none⟩=some (.bool t.v'):=P2.cell 4
 have p5:w2.cell? ⟨p,5,none⟩=some (.int .u64 t.hi'):=P2.cell 5
 have p6:w2.cell? ⟨p,6,none⟩=some (.int .u64 t.lo'):=P2.cell 6
 have p7:w2.cell? ⟨p,7,none⟩=some (.int .i64 t.sp):=P2.cell 7
 have p8:w2.cell? ⟨p,8,none⟩=some (.int .i64 t.dp):=P2.cell 8
 clear LK hc2 h1 P1 P2 B1
 have ht2:=hti.out.look i
 have hn2:=Nat.le_trans (Cn (lookS n i s).E n) hn
 replace hT2:=Lib.hid hT2
 replace B2:=Lib.hid B2
 by_cases hC:AG n s i=true
 ·
  have hC2:=hC
  unfold AG Bc at hC2
  rw [Bool.and_eq_true,decide_eq_true_eq] at hC2
  obtain ⟨k,rfl⟩:∃ k:Nat,i=(k:Int):=⟨i.toNat,by omega⟩
  rw [Int.toNat_natCast] at hC2
  have hk:k<n:=by omega
  obtain ⟨j,hj,hje,hjn⟩:=Iy (E:=(lookS n k s).E) ht2.sl hk (by rw [AQ];exact hC2.2)
  have AT:=Lib.hid (KA h2 (Nat.le_trans hn2 (by omega)) k j hj (by rw [hje,AQ];exact hti.out.sl k hk) hjn)
  obtain ⟨_,_,_,A,q,-,-,c7,-,-,-,hOw,-,-,-⟩:=h2.cells
  obtain ⟨ad,rfl,-,hc⟩:=hOw.reads.rec_at Slt.ent (fun _=>rfl) hj
  have hO1:Be n s t k low bt=(decide (0≤bt∧bt≤63) && (tupB (s.E k).t t && (bits BinOp.and IntKind.u64 (s.E k).gen (maskI bt)==low))):=by unfold Be;rw [hC,Int.toNat_natCast,Bool.true_and]
  have hV1:findV n s t k low bt=if Be n s t k low bt then s.E k else slt0:=by unfold findV;rw [Int.toNat_natCast]
  obtain ⟨x,hx⟩:∃ x,s.E k=x:=⟨_,rfl⟩
  rw [hje,AQ,hx] at hc
  rw [hx] at hO1 hV1
  obtain ⟨ll,hll⟩:∃ ll,(liveE (lookS n k s).E n).length=ll:=⟨_,rfl⟩
  dsimp only [dOf] at c7
  have hj2:j<ll:=hll ▸ hj
  rw [hll] at c7
  have hji:(j:Int)<(ll:Int):=by exact_mod_cast hj2
  have hj0:decide ((j:Int)<0)=false:=by simp
  have hj00:(0:Int)≤(j:Int):=by omega
  have e0:w2.cell? (ad.add (j * 14))=some (.int .i64 x.t.p):=hc 0 _ rfl
  have e1:w2.cell? ⟨(ad.add (j * 14)).block,(ad.add (j * 14)).off+1,none⟩=some (.bool x.t.v):=hc 1 _ rfl
  have e2:w2.cell? ⟨(ad.add (j * 14)).block,(ad.add (j * 14)).off+2,none⟩=some (.int .u64 x.t.hi):=hc 2 _ rfl
  have e3:w2.cell? ⟨(ad.add (j * 14)).block,(ad.add (j * 14)).off+3,none⟩=some (.int .u64 x.t.lo):=hc 3 _ rfl
  have e4:w2.cell? ⟨(ad.add (j * 14)).block,(ad.add (j * 14)).off+4,none⟩=some (.bool x.t.v'):=hc 4 _ rfl
  have e5:w2.cell? ⟨(ad.add (j * 14)).block,(ad.add (j * 14)).off+5,none⟩=some (.int .u64 x.t.hi'):=hc 5 _ rfl
  have e6:w2.cell? ⟨(ad.add (j * 14)).block,(ad.add (j * 14)).off+6,none⟩=some (.int .u64 x.t.lo'):=hc 6 _ rfl
  have e7:w2.cell? ⟨(ad.add (j * 14)).block,(ad.add (j * 14)).off+7,none⟩=some (.int .i64 x.t.sp):=hc 7 _ rfl
  have e8:w2.cell? ⟨(ad.add (j * 14)).block,(ad.add (j * 14)).off+8,none⟩=some (.int .i64 x.t.dp):=hc 8 _ rfl
  have e12:w2.cell? ⟨(ad.add (j * 14)).block,(ad.add (j * 14)).off+12,none⟩=some (.int .u64 x.gen):=hc 12 _ rfl
  replace hc:=Lib.hid hc
  clear hOw hje hjn hj hn2 hll hC hC2 hx
  replace h2:=Lib.hid h2
  have hE:=fun W=>OW x.t t W
  have hG:Tryz.prog.eqGuardType Tryz.prog.depth 47=false:=by kernel_rfl
  have MK:=Lib.hid fun W=>(Ci bt W).mono fun _ _ h=>And.intro h.1 h.2.symm
  obtain ⟨tb,htb⟩:∃ tb,tupB x.t t=tb:=⟨_,rfl⟩
  obtain ⟨mv,hmv⟩:∃ mv,maskI bt=mv:=⟨_,rfl⟩
  rw [htb] at hE hO1
  rw [hmv] at MK hO1
  obtain ⟨gm,hgm⟩:∃ gm,bits BinOp.and IntKind.u64 x.gen mv=gm:=⟨_,rfl⟩
  rw [hgm] at hO1
  by_cases b1:bt<0
  ·
   have x1:decide (bt<0)=true:=by simpa using b1
   have hO:Be n s t k low bt=false:=by rw [hO1,decide_eq_false (by omega)];rfl
   have hV:findV n s t k low bt=slt0:=by rw [hV1,hO];rfl
   replace hO:=Lib.hid hO
   replace hV:=Lib.hid hV
   clear e0 e1 e2 e3 e4 e5 e6 e7 e8 e12 hE hG MK p0 p1 p2 p3 p4 p5 p6 p7 p8 hO1 hV1 hgm b1 c7 hc
   go_upto_region 3 with (go_at_call 165;(with_reducible refine AT.out.mono ?_);rintro e w3 ⟨rfl,rfl⟩)
   go_quiet (fail)
   have hbq:=Al (Below.refl w2.heap.size w2) nq
   have B3:=B2.out.call hbq
   have hT3:DTo w1 (w2.drewN nq) g n b c (dOf n (lookS n k s)) X:=DTo.mk (h2.out.call hbq) (hT2.out.trans (XTo.call hbq))
   replace hT3:=Lib.hid hT3
   clear hbq B2 h2 AT
   generalize w2.drewN nq=w3 at *
   go_wp2_with (refine Ay rfl rfl (.tmp 10) (.tmp 56) rfl B3 slt0 rfl rfl ?_)
   change bodyPost _ _ _ _ _ (Ac w3 r slt0)
   obtain ⟨B6,hc6⟩:=Ab B3 slt0
   have hTz:=DTo.fin hXlt.out hb1 hT3.out hc6 (by omega) (by omega)
   generalize Ac w3 r slt0=wz at *
   obtain ⟨r0,r1,r2,r3,r4,r5,r6,r7,r8,r9,r10,r11,r12,r13,-⟩:=AB B6
   clear B6 hc6
   replace hTz:=Lib.hid hTz
   refine bodyPost_ret (v:=.tuple #[(slt0).val,.bool false]) (by simp [results,Tryz.results87,go_sem,r0,r1,r2,r3,r4,r5,r6,r7,r8,r9,r10,r11,r12,r13]) rfl ?_
   exact ⟨by rw [hV.out,hO.out],hTz.out⟩
  ·
   have x1:decide (bt<0)=false:=by simpa using b1
   by_cases b2:63<bt
   ·
    have x2:decide (63<bt)=true:=by simpa using b2
    have hO:Be n s t k low bt=false:=by rw [hO1,decide_eq_false (by omega)];rfl
    have hV:findV n s t k low bt=slt0:=by rw [hV1,hO];rfl
    replace hO:=Lib.hid hO
    replace hV:=Lib.hid hV
    clear e0 e1 e2 e3 e4 e5 e6 e7 e8 e12 hE hG MK p0 p1 p2 p3 p4 p5 p6 p7 p8 hO1 hV1 hgm b1 b2 c7 hc
    go_upto_region 3 with (go_at_call 165;(with_reducible refine AT.out.mono ?_);rintro e w3 ⟨rfl,rfl⟩)
    go_quiet (fail)
    have hbq:=Al (Below.refl w2.heap.size w2) nq
    have B3:=B2.out.call hbq
    have hT3:DTo w1 (w2.drewN nq) g n b c (dOf n (lookS n k s)) X:=DTo.mk (h2.out.call hbq) (hT2.out.trans (XTo.call hbq))
    replace hT3:=Lib.hid hT3
    clear hbq B2 h2 AT
    generalize w2.drewN nq=w3 at *
    go_wp2_with (refine Ay rfl rfl (.tmp 10) (.tmp 56) rfl B3 slt0 rfl rfl ?_)
    change bodyPost _ _ _ _ _ (Ac w3 r slt0)
    obtain ⟨B6,hc6⟩:=Ab B3 slt0
    have hTz:=DTo.fin hXlt.out hb1 hT3.out hc6 (by omega) (by omega)
    generalize Ac w3 r slt0=wz at *
    obtain ⟨r0,r1,r2,r3,r4,r5,r6,r7,r8,r9,r10,r11,r12,r13,-⟩:=AB B6
    clear B6 hc6
    replace hTz:=Lib.hid hTz
    refine bodyPost_ret (v:=.tuple #[(slt0).val,.bool false]) (by simp [results,Tryz.results87,go_sem,r0,r1,r2,r3,r4,r5,r6,r7,r8,r9,r10,r11,r12,r13]) rfl ?_
    exact ⟨by rw [hV.out,hO.out],hTz.out⟩
   ·
    have x2:decide (63<bt)=false:=by simpa using b2
    rw [decide_eq_true (show 0≤bt∧bt≤63 by omega),Bool.true_and] at hO1
    cases tb
    ·
     have hO:Be n s t k low bt=false:=by rw [hO1];rfl
     have hV:findV n s t k low bt=slt0:=by rw [hV1,hO];rfl
     replace hO:=Lib.hid hO
     replace hV:=Lib.hid hV
     replace hc:=Lib.hid hc
     clear hO1 hV1 b1 b2
     replace hgm:=Lib.hid hgm
     go_upto_region 3 with (go_at_call 165;(with_reducible refine AT.out.mono ?_);rintro e w3 ⟨rfl,rfl⟩)
     go_quiet ((go_at_call 161;with_reducible exact Calls.quiet_of_same (MK.out _)))
     have hbq:=Al (Below.refl w2.heap.size w2) nq
     have B3:=B2.out.call hbq
     have hT3:DTo w1 (w2.drewN nq) g n b c (dOf n (lookS n k s)) X:=DTo.mk (h2.out.call hbq) (hT2.out.trans (XTo.call hbq))
     replace hT3:=Lib.hid hT3
     clear hbq B2 h2 AT c7 hc p0 p1 p2 p3 p4 p5 p6 p7 p8 e0 e1 e2 e3 e4 e5 e6 e7 e8 e12 hE hG MK
     generalize w2.drewN nq=w3 at *
     go_wp2_with (refine Ay rfl rfl (.tmp 10) (.tmp 56) rfl B3 slt0 rfl rfl ?_)
     change bodyPost _ _ _ _ _ (Ac w3 r slt0)
     obtain ⟨B6,hc6⟩:=Ab B3 slt0
     have hTz:=DTo.fin hXlt.out hb1 hT3.out hc6 (by omega) (by omega)
     generalize Ac w3 r slt0=wz at *
     obtain ⟨r0,r1,r2,r3,r4,r5,r6,r7,r8,r9,r10,r11,r12,r13,-⟩:=AB B6
     clear B6 hc6
     replace hTz:=Lib.hid hTz
     refine bodyPost_ret (v:=.tuple #[(slt0).val,.bool false]) (by simp [results,Tryz.results87,go_sem,r0,r1,r2,r3,r4,r5,r6,r7,r8,r9,r10,r11,r12,r13]) rfl ?_
     exact ⟨by rw [hV.out,hO.out],hTz.out⟩
    ·
     rw [Bool.true_and] at hO1
     by_cases hgl:gm=low
     ·
      have hO:Be n s t k low bt=true:=by rw [hO1];simpa using hgl
      have hV:findV n s t k low bt=x:=by rw [hV1,hO];rfl
      have x3:(gm != low)=false:=by simpa using hgl
      replace hO:=Lib.hid hO
      replace hV:=Lib.hid hV
      clear hO1 hV1 b1 b2 hgl
      go_upto_region 3 with (go_at_call 165;(with_reducible refine AT.out.mono ?_);rintro e w3 ⟨rfl,rfl⟩)
      go_quiet ((go_at_call 161;with_reducible exact Calls.quiet_of_same (MK.out _)))
      have hbq:=Al (Below.refl w2.heap.size w2) nq
      have B3:=B2.out.call hbq
      have hT3:DTo w1 (w2.drewN nq) g n b c (dOf n (lookS n k s)) X:=DTo.mk (h2.out.call hbq) (hT2.out.trans (XTo.call hbq))
      replace hT3:=Lib.hid hT3
      have hcq:∀ j' u,x.ent[j']?=some u→(w2.drewN nq).cell? ((ad.add (j * 14)).add j')=some u:=fun j' u hu=>(hbq.cell (A0 (hc.out j' u hu))).trans (hc.out j' u hu)
      have c7q:=(hbq.cell (A0 c7)).trans c7
      replace hcq:=Lib.hid hcq
      clear hbq B2 h2 AT c7 hc p0 p1 p2 p3 p4 p5 p6 p7 p8 e0 e1 e2 e3 e4 e5 e6 e7 e8 e12 hE hG MK
      generalize w2.drewN nq=w3 at *
      go_wp2_with (first
       | (refine Am rfl (.tmp 62) rfl (ad.add (j * 14)) rfl x hcq.out ?_)
       | (refine Ay rfl rfl (.tmp 10) (.tmp 63) rfl B3 x rfl rfl ?_))
      change bodyPost _ _ _ _ _ (Ac w3 r x)
      obtain ⟨B6,hc6⟩:=Ab B3 x
      have hTz:=DTo.fin hXlt.out hb1 hT3.out hc6 (by omega) (by omega)
      generalize Ac w3 r x=wz at *
      obtain ⟨r0,r1,r2,r3,r4,r5,r6,r7,r8,r9,r10,r11,r12,r13,-⟩:=AB B6
      clear B6 hc6
      replace hTz:=Lib.hid hTz
      refine bodyPost_ret (v:=.tuple #[(x).val,.bool true]) (by simp [results,Tryz.results87,go_sem,r0,r1,r2,r3,r4,r5,r6,r7,r8,r9,r10,r11,r12,r13]) rfl ?_
      exact ⟨by rw [hV.out,hO.out],hTz.out⟩
     ·
      have hO:Be n s t k low bt=false:=by rw [hO1];simpa using hgl
      have hV:findV n s t k low bt=slt0:=by rw [hV1,hO];rfl
      have x3:(gm != low)=true:=by simpa using hgl
      replace hO:=Lib.hid hO
      replace hV:=Lib.hid hV
      clear hO1 hV1 b1 b2 hgl
      go_upto_region 3 with (go_at_call 165;(with_reducible refine AT.out.mono ?_);rintro e w3 ⟨rfl,rfl⟩)
      go_quiet ((go_at_call 161;with_reducible exact Calls.quiet_of_same (MK.out _)))
      have hbq:=Al (Below.refl w2.heap.size w2) nq
      have B3:=B2.out.call hbq
      have hT3:DTo w1 (w2.drewN nq) g n b c (dOf n (lookS n k s)) X:=DTo.mk (h2.out.call hbq) (hT2.out.trans (XTo.call hbq))
      replace hT3:=Lib.hid hT3
      clear hbq B2 h2 AT c7 hc p0 p1 p2 p3 p4 p5 p6 p7 p8 e0 e1 e2 e3 e4 e5 e6 e7 e8 e12 hE hG MK
      generalize w2.drewN nq=w3 at *
      go_wp2_with (refine Ay rfl rfl (.tmp 10) (.tmp 56) rfl B3 slt0 rfl rfl ?_)
      change bodyPost _ _ _ _ _ (Ac w3 r slt0)
      obtain ⟨B6,hc6⟩:=Ab B3 slt0
      have hTz:=DTo.fin hXlt.out hb1 hT3.out hc6 (by omega) (by omega)
      generalize Ac w3 r slt0=wz at *
      obtain ⟨r0,r1,r2,r3,r4,r5,r6,r7,r8,r9,r10,r11,r12,r13,-⟩:=AB B6
      clear B6 hc6
      replace hTz:=Lib.hid hTz
      refine bodyPost_ret (v:=.tuple #[(slt0).val,.bool false]) (by simp [results,Tryz.results87,go_sem,r0,r1,r2,r3,r4,r5,r6,r7,r8,r9,r10,r11,r12,r13]) rfl ?_
      exact ⟨by rw [hV.out,hO.out],hTz.out⟩
 ·
  have hO:Be n s t i low bt=false:=by unfold Be;rw [show AG n s i=false by simpa using hC];rfl
  have hV:findV n s t i low bt=slt0:=by unfold findV;rw [hO];rfl
  have AT:=Lib.hid (IA h2 (Nat.le_trans hn2 (by omega)) i (fun y hy=>JO (E:=(lookS n i s).E) ht2.sl (fun hh=>hC (by
   unfold AG Bc
   rw [Bool.and_eq_true,decide_eq_true_eq]
   rw [AQ] at hh
   exact ⟨⟨hh.1,hh.2.1⟩,hh.2.2⟩)) hy))
  replace hO:=Lib.hid hO
  replace hV:=Lib.hid hV
  clear hC hn2 p0 p1 p2 p3 p4 p5 p6 p7 p8
  replace h2:=Lib.hid h2
  go_upto_region 3 with (go_at_call 165;(with_reducible refine AT.out.mono ?_);rintro e w3 ⟨rfl,rfl⟩)
  go_quiet (fail)
  have hbq:=Al (Below.refl w2.heap.size w2) nq
  have B3:=B2.out.call hbq
  have hT3:DTo w1 (w2.drewN nq) g n b c (dOf n (lookS n i s)) X:=DTo.mk (h2.out.call hbq) (hT2.out.trans (XTo.call hbq))
  replace hT3:=Lib.hid hT3
  clear hbq B2 h2 AT
  generalize w2.drewN nq=w3 at *
  go_wp2_with (refine Ay rfl rfl (.tmp 10) (.tmp 56) rfl B3 slt0 rfl rfl ?_)
  change bodyPost _ _ _ _ _ (Ac w3 r slt0)
  obtain ⟨B6,hc6⟩:=Ab B3 slt0
  have hTz:=DTo.fin hXlt.out hb1 hT3.out hc6 (by omega) (by omega)
  generalize Ac w3 r slt0=wz at *
  obtain ⟨r0,r1,r2,r3,r4,r5,r6,r7,r8,r9,r10,r11,r12,r13,-⟩:=AB B6
  clear B6 hc6
  replace hTz:=Lib.hid hTz
  refine bodyPost_ret (v:=.tuple #[(slt0).val,.bool false]) (by simp [results,Tryz.results87,go_sem,r0,r1,r2,r3,r4,r5,r6,r7,r8,r9,r10,r11,r12,r13]) rfl ?_
  exact ⟨by rw [hV.out,hO.out],hTz.out⟩
end
theorem FG {n:Nat}:∀ (S:List Int) (s:TSt),(goAll n s S).M.length≤s.M.length
 | [],_=>Nat.le_refl _
 | x :: S,s=>Nat.le_trans (FG S (goS n s x.toNat)) (Cr _ _)
theorem Qj (n:Nat) (L:List Int) (i:Int):(pushL n L i).length≤L.length+1:=by
 unfold pushL
 split
 · simp
 · omega
theorem FH {n:Nat}:∀ (S:List Int) (s:TSt),(goAll n s S).L.length≤s.L.length+S.length
 | [],_=>Nat.le_refl _
 | x :: S,s=>by
  have h1:=FH (n:=n) S (goS n s x.toNat)
  have h2:(goS n s x.toNat).L.length≤s.L.length+1:=Qj n s.L _
  have h3:(goAll n s (x :: S))=goAll n (goS n s x.toNat) S:=rfl
  rw [h3,List.length_cons]
  omega
section
variable {w w' w1 w2:World} {g n:Nat} {b:Int} {c:TCfg} {d:DTs} {s:TSt} {X X1 X2 F:Nat→Prop}
theorem DTabP.wheel2 (h:DTabP w g n b c d X):∃ wg Y,(∀ y,Y y→X y)∧w.cell? ⟨g,6,none⟩=some (.pointer (some ⟨wg,0,none⟩))∧RWheelP w wg c.G d.now d.M Y∧∀ (w':World) (now':Int) (M':LM) (Y':Nat→Prop),RWheelP w' wg c.G now' M' Y'→Chg Y w w'→(∀ y,Y' y→Y y∨w.heap.size≤y)→∃ X',DTabP w' g n b c { d with now:=now',M:=M' } X'∧Chg X w w'∧∀ y,X' y→X y∨Y' y:=by
 have hlt:=fun x (hx:X x)=>h.lt hx
 obtain ⟨fs,wg,gb,F',Y,A,q,h1,h2,h3,h4,h5,h6,h7,h8,h9,h10,h11⟩:=h
 refine ⟨wg,Y,fun y hy=>(h6 y).2 (.inr (.inr (.inr (.inr hy)))),h1.cell 6,h3,fun w' now' M' Y' k1 k2 k3=>?_⟩
 have hY:∀ y,Y y→X y:=fun y hy=>(h6 y).2 (.inr (.inr (.inr (.inr hy))))
 have hnew:∀ y,X y→¬ Y y→¬ Y' y:=fun y hx hn hy=>(k3 y hy).elim hn fun h=>by have:=hlt y hx;omega
 have gX:X g:=(h6 g).2 (.inl rfl)
 have gbX:X gb:=(h6 gb).2 (.inr (.inl rfl))
 have gY:¬ Y g:=fun hy=>(h8 g (.inr hy)).1 rfl
 have gbY:¬ Y gb:=fun hy=>(h8 gb (.inr hy)).2.1 rfl
 have AY:∀ y,InB A y→¬ Y y:=fun y hi hy=>(h8 y (.inr hy)).2.2 hi
 refine ⟨fun x=>x=g∨x=gb∨InB A x∨F' x∨Y' x,⟨fs,wg,gb,F',Y',A,q,h1.chg k2 gY,h2.chg k2 h7,k1,h4.chg k2 AY,C6 h5 k2 gbY,fun x=>Iff.rfl,fun x hx=>hnew x ((h6 x).2 (.inr (.inr (.inr (.inl hx))))) (h7 x hx),fun x hx=>?_,h9,h10,h11⟩,k2.mono fun y _ hy=>hY y hy,fun y hy=>?_⟩
 ·
  rcases hx with hx | hx
  · exact h8 x (.inl hx)
  ·
   refine ⟨?_,?_,fun hi=>hnew x ((h6 x).2 (.inr (.inr (.inl hi)))) (AY x hi) hx⟩
   ·
    rintro rfl
    exact hnew _ gX gY hx
   ·
    rintro rfl
    exact hnew _ gbX gbY hx
 ·
  rcases hy with rfl | rfl | hy | hy | hy
  · exact .inl gX
  · exact .inl gbX
  · exact .inl ((h6 y).2 (.inr (.inr (.inl hy))))
  · exact .inl ((h6 y).2 (.inr (.inr (.inr (.inl hy)))))
  · exact .inr hy
theorem Rv (h:DTabP w g n b c d X) (hM:d.M.length≤100000) (nw:Int) {S:List Int} (hS:GoS c.G d.now nw d.M S):∃ wg,w.cell? ⟨g,6,none⟩=some (.pointer (some ⟨wg,0,none⟩))∧Calls Tryz.prog 172 #[.pointer (some ⟨wg,0,none⟩),.int .i64 nw] w fun e w'=>∃ (B:Option Addr) (q:Nat) (X':Nat→Prop),e=.returned (.tuple #[.slice B S.length q,.int .i64 (goE d.now nw)])∧Reads w' w'.heap.size 1 B S.length (S.map (.int .i64))∧(∀ y,InB B y→¬ X' y)∧DTabP w' g n b c { d with now:=goN d.now nw,M:=Av d.M S } X'∧XTo w w' X X':=by
 have hlt:=fun x (hx:X x)=>h.lt hx
 obtain ⟨wg,Y,hYX,h1,h2,h3⟩:=h.wheel2
 refine ⟨wg,h1,(NL h2 hM nw hS).mono ?_⟩
 rintro e w' ⟨B,q,rfl,k1,k2,Y',k3,k4,k5,k6⟩
 obtain ⟨X',m1,m2,m3⟩:=h3 w' _ _ Y' k3 k5 k6
 refine ⟨B,q,X',rfl,k1,fun y hy hx=>?_,m1,m2,fun y hy=>?_⟩
 ·
  rcases m3 y hx with h | h
  ·
   have:=hlt y h
   have:=k2 y hy
   omega
  · exact k4 y hy h
 ·
  rcases m3 y hy with h | h
  · exact .inl h
  · exact (k6 y h).imp (hYX y) id
set_option maxRecDepth 100000 in
set_option maxHeartbeats 16000000 in
theorem Mj (h:DTabP w g n b c (dOf n s) X) (hti:TI n s) (nw:Int) {S:List Int} (hS:GoS c.G s.now nw s.M S) :
  Calls Tryz.prog 92 #[.pointer (some ⟨g,0,none⟩),.int .i64 nw] w fun e w'=>∃ (B:Option Addr) (q:Nat),e=.returned (.tuple #[.slice B S.length q,.int .i64 (goE s.now nw)])∧OwnE w' w.heap.size B q (Au s S)∧DTo w w' g n b c (dOf n (goTab n s nw S)) X:=by
 have hn:=h.n4096
 have hM:=hti.mlen5 hn
 have hxS:∀ x ∈ S,0≤x∧x<n∧(s.E x.toNat).used=true:=fun x hx=>by
  cases hg:goOk s.now nw
  ·
   rw [hS.no hg] at hx
   cases hx
  · exact (hti.has x).1 ((hS.mem hg x).1 hx).1
 have hSl:S.length≤n:=by
  have h1:=hti.go hS
  have h2:=Cm h1.1
  rw [h1.2.2.2.1,List.length_append,List.length_reverse] at h2
  omega
 have hLl:s.L.length≤n:=by have:=Cm hti;omega
 have hnd:=hS.nd
 have hsl:=hti.sl
 have hno:=hS.no
 obtain ⟨wg,c6,WG⟩:=Rv h (by exact hM) nw (S:=S) (by exact hS)
 obtain ⟨s1,hs1⟩:∃ s1,({ s with now:=goN s.now nw,M:=Av s.M S }:TSt)=s1:=⟨_,rfl⟩
 have hs1E:s1.E=s.E:=by rw [← hs1]
 have hs1L:s1.L.length≤n:=by rw [← hs1];exact hLl
 have hs1M:s1.M.length≤100000:=by rw [← hs1];exact Nat.le_trans (Ii _ _) hM
 have hd1:({ dOf n s with now:=goN (dOf n s).now nw,M:=Av (dOf n s).M S }:DTs)=dOf n s1:=by rw [← hs1]
 have hgt:goTab n s nw S=goAll n s1 S:=by unfold goTab;rw [hs1]
 rw [hd1] at WG
 rw [hgt]
 dsimp only [dOf] at WG
 clear hs1 hd1 hgt hM hti
 replace hS:=Lib.hid hS
 replace h:=Lib.hid h
 replace WG:=Lib.hid WG
 replace hxS:=Lib.hid hxS
 replace hnd:=Lib.hid hnd
 replace hsl:=Lib.hid hsl
 replace hno:=Lib.hid hno
 replace hs1E:=Lib.hid hs1E
 obtain ⟨ge,hge⟩:∃ v,goE s.now nw=v:=⟨_,rfl⟩
 rw [hge] at WG ⊢
 by_cases hg:goOk s.now nw=true
 ·
  obtain rfl:(0:Int)=ge:=by rw [← hge];unfold goE;rw [if_pos hg]
  clear hge
  go_enter Tryz.func92,Tryz.ntmps92
  go_upto_region 4 with (go_at_call 172;(with_reducible refine WG.out.mono ?_);rintro e w1 ⟨B,q,X1,rfl,hrB,hBX,h1,k1⟩)
  replace h1:=Lib.hid h1
  replace k1:=Lib.hid k1
  replace hBX:=Lib.hid hBX
  replace hrB:=Lib.hid hrB
  clear c6 WG hS
  go_wp2_with fail
  go_loopw [8,9] (fun ov iv wr=>∃ (k:Nat) (A':Option Addr) (q':Nat) (Xk:Nat→Prop),k≤S.length∧iv=.int .i64 (k:Nat)∧ov=.slice A' k q'∧OwnE wr w.heap.size A' q' (Au s (S.take k))∧DTabP wr g n b c (dOf n (goAll n s1 (S.take k))) Xk∧XTo w wr X Xk∧(∀ y,InB A' y→¬ Xk y)∧(∀ y,InB B y→¬ Xk y)∧(∀ y,InB B y→¬ InB A' y)∧Reads wr wr.heap.size 1 B S.length (S.map (.int .i64))) (fun _ iv _=>S.length - (intOf iv).toNat)
  case atStart=>exact ⟨0,none,0,X1,by omega,rfl,rfl,OwnA.nil _ _,h1.out,k1.out,fun y hy=>absurd hy Ba,hBX.out,fun y _ hy=>absurd hy Ba,hrB.out⟩
  case round =>
   clear h1 k1 hBX hrB X1
   obtain ⟨k,A',q',Xk,hk,rfl,rfl,hO,hT,hX,hAX,hBX,hBA,hrB⟩:=hrel
   have hwz:=hX.1.size
   by_cases hlt:k<S.length
   ·
    have hlti:(k:Int)<(S.length:Int):=by omega
    have hlen:(Au s (S.take k)).length=k:=by unfold Au;rw [List.length_map,List.length_take];omega
    have hst:Au s (S.take (k+1))=Au s (S.take k) ++ [s.E S[k].toNat]:=by
     unfold Au
     rw [List.take_succ_eq_append_getElem hlt,List.map_append]
     rfl
    have hgt:=Iq n s1 hlt
    obtain ⟨ab,rfl,hbl,hcb⟩:=hrB.int_at (xs:=S) hlt
    rw [List.getD_eq_getElem?_getD,List.getElem?_eq_getElem hlt] at hcb
    have hx:=hxS.out S[k] (List.getElem_mem hlt)
    have hnk:∀ x ∈ S.take k,x≠S[k]:=fun x hx e=>by
     obtain ⟨j,hj,rfl⟩:=List.mem_iff_getElem.1 hx
     rw [List.length_take] at hj
     rw [List.getElem_take] at e
     have:=(List.pairwise_iff_getElem.1 hnd.out) j k (by omega) hlt (by omega)
     exact this e
    obtain ⟨kx,hkx⟩:∃ kx:Nat,S[k]=(kx:Int):=⟨S[k].toNat,by omega⟩
    have hnk2:∀ x ∈ S.take k,x.toNat≠kx:=fun x hx e=>by
     have h5:=hxS.out x (List.take_subset _ _ hx)
     have:=hnk x hx
     omega
    dsimp only [Option.getD_some] at hcb
    rw [hkx] at hcb hx hst hgt
    rw [Int.toNat_natCast] at hx hst hgt
    have hkn:kx<n:=by omega
    have hslk:=Gr (S.take k) s1 (fun q hq=>by rw [hs1E.out];exact hsl.out q hq)
    have hEk:(goAll n s1 (S.take k)).E kx=s.E kx:=(Kw (S.take k) s1 kx hnk2).trans (by rw [hs1E.out])
    have hLk:(goAll n s1 (S.take k)).L.length≤1000000:=by
     have h5:=FH (n:=n) (S.take k) s1
     have h6:(S.take k).length≤S.length:=List.length_take_le' _ _
     omega
    have hMk:(goAll n s1 (S.take k)).M.length≤100000:=Nat.le_trans (FG _ _) hs1M
    have hgd:=IG (s:=goAll n s1 (S.take k)) hslk kx
    rw [← hgt] at hgd
    generalize goAll n s1 (S.take k)=sk at *
    have hn2:=Nat.le_trans (Cn sk.E n) hn
    obtain ⟨j,hj,hje,hjn⟩:=Iy (E:=sk.E) hslk hkn (by rw [hEk];exact hx.2.2)
    have AT:=Lib.hid (KA hT (Nat.le_trans hn2 (by omega)) kx j hj (by rw [hje];exact hslk kx hkn) hjn)
    obtain ⟨_,_,_,A,qa,-,-,c7,-,-,-,hOw,-,-,-⟩:=hT.cells
    obtain ⟨ad,rfl,-,hc⟩:=hOw.reads.rec_at Slt.ent (fun _=>rfl) hj
    obtain ⟨xs,hxs⟩:∃ xs,s.E kx=xs:=⟨_,rfl⟩
    rw [hje,hEk,hxs] at hc
    rw [hxs] at hst
    obtain ⟨ll,hll⟩:∃ ll,(liveE sk.E n).length=ll:=⟨_,rfl⟩
    dsimp only [dOf] at c7
    have hj2:j<ll:=hll ▸ hj
    rw [hll] at c7
    have hji:(j:Int)<(ll:Int):=by exact_mod_cast hj2
    have hj0:(0:Int)≤(j:Int):=by omega
    have hk0:(0:Int)≤(k:Int):=by omega
    replace hc:=Lib.hid hc
    clear hOw hje hjn hj hll hx hxs hnk hnk2 hkx hEk
    replace hslk:=Lib.hid hslk
    replace hgd:=Lib.hid hgd
    replace hst:=Lib.hid hst
    replace hgt:=Lib.hid hgt
    replace hT:=Lib.hid hT
    replace hO:=Lib.hid hO
    replace hAX:=Lib.hid hAX
    replace hBX:=Lib.hid hBX
    replace hBA:=Lib.hid hBA
    replace hrB:=Lib.hid hrB
    replace hX:=Lib.hid hX
    go_upto_region 10 with (first
     | (go_at_call 165;(with_reducible refine AT.out.mono ?_);rintro e w3 ⟨rfl,rfl⟩)
     | (refine Am rfl (.tmp 41) rfl (ad.add (j * 14)) rfl xs hc.out ?_)
     | (at_builtin;refine AV rfl (.tmp 35) (.tmp 43) rfl w.heap.size A' q' (Au s (S.take k)) xs k hlen rfl hO.out _ rfl rfl rfl (by omega) (by omega) ?_;intro A4 a4 w4 hO4 hp4))
    have hT4:=hT.out.chg hp4.chg (fun y hy hi=>hAX.out y hi hy)
    have hX4:XTo w w4 X Xk:=⟨hX.out.1.trans hp4.chg (fun y hy hi=>by have:=(hO.out.block hi).1;omega),hX.out.2⟩
    have hz4:=hp4.chg.size
    have hr4:=hrB.out.chg hp4.chg (fun a e hi=>hBA.out a.block ⟨a,e,rfl⟩ hi)
    have hA4:∀ y,InB A4 y→¬ Xk y:=fun y hy hx=>(hp4.new y hy).elim (fun h=>hAX.out y h hx) (fun h=>by have:=hT.out.lt hx;omega)
    have hB4:∀ y,InB (some ab) y→¬ InB A4 y:=fun y hy hi=>(hp4.new y hi).elim (fun h=>hBA.out y hy h) (fun h=>by
     obtain ⟨a,e,rfl⟩:=hy
     cases e
     omega)
    have hcb4:w4.cell? (ab.add k)=some (.int .i64 (kx:Int)):=(Af hp4.chg (A0 hcb) (fun hi=>hBA.out (ab.add k).block ⟨ab,rfl,(C5 _ _).symm⟩ hi)).trans hcb
    have GN:=GM hT4 hn2 (by exact hMk) (by exact hLk) kx hkn
    rw [hgd.out] at GN
    replace GN:=Lib.hid GN
    have hw4:ab.block<w4.heap.size:=by omega
    replace hr4:=Lib.hid hr4
    replace hX4:=Lib.hid hX4
    replace hO4:=Lib.hid hO4
    replace hA4:=Lib.hid hA4
    replace hB4:=Lib.hid hB4
    clear hT hO hAX hBA hrB hX hT4 hp4 hcb c7 hc AT
    go_wp2_with (go_at_call 169;(with_reducible refine GN.out.mono ?_);rintro e w5 ⟨rfl,X5,h5,k5⟩)
    have hA5:∀ y,InB A4 y→¬ X5 y:=fun y hy hx=>(k5.2 y hx).elim (fun h=>hA4.out y hy h) (fun h=>by have:=(hO4.out.block hy).2;omega)
    have hB5:∀ y,InB (some ab) y→¬ X5 y:=fun y hy hx=>(k5.2 y hx).elim (fun h=>hBX.out y hy h) (fun h=>by
     obtain ⟨a,e,rfl⟩:=hy
     cases e
     omega)
    have hO5:=OwnA.chg hO4.out k5.1 (fun y hy hx=>hA4.out y hy hx)
    have hr5:=hr4.out.chg k5.1 (fun a e hx=>hBX.out a.block ⟨a,e,rfl⟩ hx)
    go_roundw
    case rel=>exact ⟨k+1,A4,a4,X5,by omega,by go_num,rfl,by rw [hst.out];exact hO5,h5,hX4.out.trans k5,hA5,hB5,hB4.out,hr5⟩
    case measure=>simp [intOf];omega
   ·
    obtain rfl:k=S.length:=by omega
    have hlti:¬ ((S.length:Nat):Int)<(S.length:Int):=by omega
    rw [List.take_length] at hO hT
    have hfin:DTo w wr g n b c (dOf n (goAll n s1 S)) X:=DTo.mk hT hX
    replace hfin:=Lib.hid hfin
    replace hO:=Lib.hid hO
    clear hT hX hAX hBX hBA hrB
    go_wp2_with fail
    go_ret2
    exact ⟨A',q',rfl,hO.out,hfin.out⟩
 ·
  have hge1:goE s.now nw=15:=by unfold goE;rw [if_neg hg]
  obtain rfl:(15:Int)=ge:=by rw [← hge,hge1]
  obtain rfl:=hno.out (by simpa using hg)
  clear hge hge1 hg
  go_enter Tryz.func92,Tryz.ntmps92
  go_wp2_with (go_at_call 172;(with_reducible refine WG.out.mono ?_);rintro e w1 ⟨B,q,X1,rfl,hrB,hBX,h1,k1⟩)
  have hfin:DTo w w1 g n b c (dOf n (goAll n s1 [])) X:=DTo.mk h1 k1
  replace hfin:=Lib.hid hfin
  clear hrB hBX h1 k1
  go_ret2
  exact ⟨none,0,rfl,OwnA.nil _ _,hfin.out⟩
end
end Go.Proofs.YteklkljndchjiaaGreat
