/- An entry loaded and stored whole, in its own block. table: entries compared; a generation's lowest bit. table: the law TableAgain, called. table: what a call does to slots, in plain words; the law's at. -/
import Derived.Test.YteklkljndchjiaaGreatJ29
import Derived.Deep.MidRow
import Derived.Test.YteklkljndchjiaaGreatJ32
import Derived.Test.YteklkljndchjiaaGreatJ22
import Derived.Laws.StructEq
import Derived.Laws.Bits64b
namespace Go.Proofs.YteklkljndchjiaaGreat
open Go Go.RowKit Go.Deep Go.Maps Go.ChangeMaps
theorem NJ {w:World} {r:Nat} {x:Slt} (h:Blk w r 52 x.entA):w.rangeAt r 0 x.ent:=fun j v hv=>by
 rw [Nat.zero_add,h.cell j]
 exact (List.getElem?_toArray ..).trans hv
theorem NK {w:World} {r:Nat} {x:Slt} (h:Blk w r 52 x.entA):w.there r 0 14:=fun j hj=>by
 refine ⟨?_,h.frozen _⟩
 have e:x.entA[j]?=x.ent[j]?:=List.getElem?_toArray ..
 rw [Nat.zero_add,h.cell j,e,List.getElem?_eq_getElem (show j<x.ent.length from hj)]
 rfl
theorem JL:(Tryz.prog.info? 52).map (·.size)=some 14:=by kernel_rfl
theorem Ro (x:Slt):x.entA.all (·.oneCell')=true:=by
 refine all_oneCell_toArray (cs:=x.ent) fun u hu=>?_
 unfold Slt.ent at hu
 simp at hu
 rcases hu with rfl | rfl | rfl | rfl | rfl | rfl | rfl | rfl | rfl | rfl | rfl | rfl | rfl | rfl <;> rfl
section
variable {ops:Array Oper} {rest:List Oper} {op:Oper} {a:Act} {w:World} {Q:Exit→Act→World→Prop}
theorem AC (hgd:op.guard=none) (x:Operand) (ho:op.op=.load 52 x) (r:Nat) (hx:a.eval x=.pointer (some ⟨r,0,none⟩)) (v:Slt) (hB:Blk w r 52 v.entA)
  (h:wpList Tryz.prog ops Q rest (a.put op.dst (.agg v.entA)) w):wpList Tryz.prog ops Q (op :: rest) a w :=
 wpList_load_mid hgd 52 x ho r 0 hx v.ent _ (NJ hB) Tryz.underlying52 rfl JL h
theorem Ae {K:Act→World→Prop} (x y:Operand) (ho:op.op=.store 52 x y) {r:Nat} {z:Slt} (hB:Blk w r 52 z.entA) (v:Slt) (hx:a.eval x=.pointer (some ⟨r,0,none⟩)) (hy:a.eval y=.agg v.entA)
  (h:K (a.put op.dst undef) (Ac w r v)):op.wp Tryz.prog a w K Q :=
 wp_store_mid 52 x y ho r 0 v.entA hx hy (NK hB) JL (Ro v) h
theorem Ao (hgd:op.guard=none) (hdst:op.dst=none) (x y:Operand) (ho:op.op=.store 52 x y) {r:Nat} {z:Slt} (hB:Blk w r 52 z.entA) (v:Slt) (hx:a.eval x=.pointer (some ⟨r,0,none⟩)) (hy:a.eval y=.agg v.entA)
  (h:wpList Tryz.prog ops Q rest a (Ac w r v)):wpList Tryz.prog ops Q (op :: rest) a w :=
 wpList_plain hgd fun _ hK=>Ae x y ho hB v hx hy (by rw [hdst];exact hK _ _ h)
@[reducible] def EntAt (q:Nat) (x:Slt) (W:World):Prop:=W.cell? ⟨q,0,none⟩=some (.int .i64 x.t.p)∧W.cell? ⟨q,1,none⟩=some (.bool x.t.v)∧W.cell? ⟨q,2,none⟩=some (.int .u64 x.t.hi)∧W.cell? ⟨q,3,none⟩=some (.int .u64 x.t.lo)∧W.cell? ⟨q,4,none⟩=some (.bool x.t.v')∧W.cell? ⟨q,5,none⟩=some (.int .u64 x.t.hi')∧W.cell? ⟨q,6,none⟩=some (.int .u64 x.t.lo')∧W.cell? ⟨q,7,none⟩=some (.int .i64 x.t.sp)∧W.cell? ⟨q,8,none⟩=some (.int .i64 x.t.dp)∧W.cell? ⟨q,9,none⟩=some (.int .i64 x.bk)∧W.cell? ⟨q,10,none⟩=some (.int .i64 x.st)∧W.cell? ⟨q,11,none⟩=some (.int .i64 x.sl)∧W.cell? ⟨q,12,none⟩=some (.int .u64 x.gen)∧W.cell? ⟨q,13,none⟩=some (.int .i64 x.due)
theorem EntAt.chg {q:Nat} {x:Slt} {W W':World} {F:Nat→Prop} (h:EntAt q x W) (hc:Chg F W W') (hF:¬ F q):EntAt q x W':=by
 obtain ⟨h0,h1,h2,h3,h4,h5,h6,h7,h8,h9,h10,h11,h12,h13⟩:=h
 exact ⟨(Af hc (A0 h0) hF).trans h0,(Af hc (A0 h1) hF).trans h1,(Af hc (A0 h2) hF).trans h2,(Af hc (A0 h3) hF).trans h3,(Af hc (A0 h4) hF).trans h4,(Af hc (A0 h5) hF).trans h5,(Af hc (A0 h6) hF).trans h6,(Af hc (A0 h7) hF).trans h7,(Af hc (A0 h8) hF).trans h8,(Af hc (A0 h9) hF).trans h9,(Af hc (A0 h10) hF).trans h10,(Af hc (A0 h11) hF).trans h11,(Af hc (A0 h12) hF).trans h12,(Af hc (A0 h13) hF).trans h13⟩
theorem EntAt.call {q:Nat} {x:Slt} {W W':World} (h:EntAt q x W) (hb:Below W.heap.size W W'):EntAt q x W':=h.chg (F:=fun _=>False) (Chg.of_below hb) (fun h=>h)
theorem EntAt.of {q:Nat} {x:Slt} {W:World} (h:Blk W q 52 x.entA):EntAt q x W:=⟨h.cell 0,h.cell 1,h.cell 2,h.cell 3,h.cell 4,h.cell 5,h.cell 6,h.cell 7,h.cell 8,h.cell 9,h.cell 10,h.cell 11,h.cell 12,h.cell 13⟩
end
theorem Qd (t:Tup):tupB t t=true:=Io.2 rfl
def entB (x y:Slt):Bool:=tupB x.t y.t && (x.bk==y.bk && (x.st==y.st && (x.sl==y.sl && (x.gen==y.gen && x.due==y.due))))
theorem P6 (x y:Slt) (w:World):(binOp .eql 52 x.val y.val).run Tryz.prog w=.ok (.bool (entB x y)) w:=by
 have u3:=Tryz.underlying3
 have a3:=Tryz.isAgg3
 have z3:=Tryz.sizeOf3
 have u4:=Tryz.underlying24
 have a4:=Tryz.isAgg24
 have z4:=Tryz.sizeOf24
 have u5:=Tryz.underlying4
 have a5:=Tryz.isAgg4
 have z5:=Tryz.sizeOf4
 have a6:=Tryz.isAgg45
 have z6:=Tryz.sizeOf45
 have a7:=Tryz.isAgg47
 have z7:=Tryz.sizeOf47
 have hS:Tryz.prog.underlying 52=some (.struct (Tryz.prog.fieldsOf 52)):=by kernel_rfl
 have hp:Tryz.prog.stoodInHeld 52=false:=by kernel_rfl
 have hS1:Tryz.prog.underlying 47=some (.struct (Tryz.prog.fieldsOf 47)):=by kernel_rfl
 have hp1:Tryz.prog.stoodInHeld 47=false:=by kernel_rfl
 have hS2:Tryz.prog.underlying 45=some (.struct (Tryz.prog.fieldsOf 45)):=by kernel_rfl
 have hp2:Tryz.prog.stoodInHeld 45=false:=by kernel_rfl
 have hA:=fun (d:Nat) (xs ys:Array Value)=>run_equalIn_agg w d 45 xs ys hS2 hp2
 have hT:=fun (d:Nat) (xs ys:Array Value)=>run_equalIn_agg w d 47 xs ys hS1 hp1
 rw [run_eql_struct,show (10000:Nat)=9999+1 from rfl,run_equalIn_agg w 9999 52 _ _ hS hp]
 clear hS hp hS2 hp2 hS1 hp1
 simp only [Program.fieldsOf,Tryz.underlying52,Tryz.underlying47,Tryz.underlying45] at hA hT ⊢
 unfold entB tupB
 obtain ⟨⟨a1,a2,a3,a4,a5,a6,a7,a8,a9⟩,b1,b2,b3,b4,b5,-⟩:=x
 obtain ⟨⟨c1,c2,c3,c4,c5,c6,c7,c8,c9⟩,d1,d2,d3,d4,d5,-⟩:=y
 go_simp
 by_cases h1:a1=c1
 case neg=>simp [h1]
 by_cases h2:a2=c2
 case neg=>simp [h1,h2]
 by_cases h3:a3=c3
 case neg =>
  have g3:¬ ((a3:Int)=(c3:Int)):=by omega
  simp [h1,h2,h3,g3]
 by_cases h4:a4=c4
 case neg =>
  have g4:¬ ((a4:Int)=(c4:Int)):=by omega
  simp [h1,h2,h3,h4,g4]
 by_cases h5:a5=c5
 case neg=>simp [h1,h2,h3,h4,h5]
 by_cases h6:a6=c6
 case neg =>
  have g6:¬ ((a6:Int)=(c6:Int)):=by omega
  simp [h1,h2,h3,h4,h5,h6,g6]
 by_cases h7:a7=c7
 case neg =>
  have g7:¬ ((a7:Int)=(c7:Int)):=by omega
  simp [h1,h2,h3,h4,h5,h6,h7,g7]
 by_cases h8:a8=c8
 case neg=>simp [h1,h2,h3,h4,h5,h6,h7,h8]
 by_cases h9:a9=c9
 case neg=>simp [h1,h2,h3,h4,h5,h6,h7,h8,h9]
 by_cases k1:b1=d1
 case neg=>simp [h1,h2,h3,h4,h5,h6,h7,h8,h9,k1]
 by_cases k2:b2=d2
 case neg=>simp [h1,h2,h3,h4,h5,h6,h7,h8,h9,k1,k2]
 by_cases k3:b3=d3
 case neg=>simp [h1,h2,h3,h4,h5,h6,h7,h8,h9,k1,k2,k3]
 by_cases k4:b4=d4
 case neg=>simp [h1,h2,h3,h4,h5,h6,h7,h8,h9,k1,k2,k3,k4]
 by_cases k5:b5=d5
 case neg=>simp [h1,h2,h3,h4,h5,h6,h7,h8,h9,k1,k2,k3,k4,k5]
 simp [h1,h2,h3,h4,h5,h6,h7,h8,h9,k1,k2,k3,k4,k5]
abbrev lwC:TCfg:=⟨3,20,5,8,4⟩
structure Again (n k:Nat) (s:TSt) (x:Slt) (s1 s2 s3:TSt) (a:Slt):Prop where
 xk:x.sl=k
 e1:s1=closeS n s k
 e2:s2=lookS n k s1
 e3:s3=openS lwC n s2 x.t 7 2
 no1:Be n s1 x.t k 0 0=false
 l1:s2.L.length=s.L.length+1
 g1:genI n s2.E k=IntKind.u64.wrap (x.gen+1)
 oe:openE s2 x.t 7 2=0
 ov:openV lwC s2 x.t 7 2=a
 ak:a.sl=k
 ag:a.gen=IntKind.u64.wrap (x.gen+1)
 ab:a.bk=7
 at_:a.t=x.t
 l3:s3.L.length=s.L.length
 find:∀ (lk:Int) (y:Tup) (low:Int),Be n { s3 with lk:=lk } y k low 1=(tupB x.t y && (a.gen % 2==low))
 par:0≤a.gen∧(a.gen % 2==x.gen % 2)=false
section
variable {n:Nat} {s s':TSt}
theorem Qe {x:Slt}:x ∈ liveL n s ↔ ∃ k:Nat,k<n∧(s.E k).used=true∧s.E k=x:=by
 unfold liveL Aq allL
 rw [List.mem_map]
 constructor
 ·
  rintro ⟨k,hk,rfl⟩
  rw [List.mem_filter,List.mem_range,Bool.and_true] at hk
  exact ⟨k,hk.1,hk.2,rfl⟩
 ·
  rintro ⟨k,hk,hu,rfl⟩
  exact ⟨k,by rw [List.mem_filter,List.mem_range,Bool.and_true];exact ⟨hk,hu⟩,rfl⟩
theorem GK (L:List Int):∀ n:Nat,L.Nodup→(∀ x ∈ L,0≤x∧x<n)→((List.range n).filter fun k:Nat=>!decide ((k:Int) ∈ L)).length+L.length=n
 | 0,_,h=>by
  have:L=[]:=List.eq_nil_iff_forall_not_mem.2 fun x hx=>by have:=h x hx;omega
  subst this
  rfl
 | n+1,hn,h=>by
  rw [List.range_succ,List.filter_append,List.length_append]
  by_cases hm:(n:Int) ∈ L
  ·
   have hp:=List.perm_cons_erase hm
   have ih:=GK (L.erase n) n (hn.erase _) (fun x hx=>by
    have h1:=h x (List.mem_of_mem_erase hx)
    have h2:x≠n:=fun e=>by rw [e] at hx;exact (hn.not_mem_erase) hx
    omega)
   have e:((List.range n).filter fun k:Nat=>!decide ((k:Int) ∈ L))=(List.range n).filter fun k:Nat=>!decide ((k:Int) ∈ L.erase n):=by
    refine List.filter_congr fun k hk=>?_
    have hk:=List.mem_range.1 hk
    congr 1
    rw [decide_eq_decide,List.mem_erase_of_ne (by omega)]
   rw [e]
   have hl:=List.length_erase_of_mem hm
   have hpos:0<L.length:=List.length_pos_of_mem hm
   simp [hm]
   omega
  ·
   have ih:=GK L n hn (fun x hx=>by
    have h1:=h x hx
    have h2:x≠n:=fun e=>hm (e ▸ hx)
    omega)
   simp [hm]
   omega
theorem Cm (hi:TI n s):(liveL n s).length+s.L.length=n:=by
 have h:=GK s.L n hi.nd hi.rng
 refine Eq.trans ?_ h
 unfold liveL Aq allL
 rw [List.length_map]
 congr 2
 refine List.filter_congr fun k hk=>?_
 have:=hi.used k (List.mem_range.1 hk)
 rw [Bool.and_true,Bool.eq_iff_iff,this]
 simp
end
end Go.Proofs.YteklkljndchjiaaGreat
