/- For all arguments, cloakroomlaw33.StatefulPlays returns true and leaves its arguments as they were. No conditions. -/
import Derived.Test.YteklkljndchjiaaGreatRows
import Derived.JoinedOf
import Derived.Test.YteklkljndchjiaaGreatJ47
import Derived.Test.YteklkljndchjiaaGreatJ3
import Derived.Test.YteklkljndchjiaaGreatJ22
import Derived.Test.YteklkljndchjiaaGreatJ60
namespace Go.Proofs.YteklkljndchjiaaGreat
open Go
theorem and_t {a b:Bool} (ha:a=true) (hb:b=true):(a && b)=true:=by rw [ha,hb];rfl
theorem Pg:Tryz.prog.mayEnter=true:=by kernel_rfl
def aRow : OpenClaim := { program := "", sum := "", func := "", spec := "" }
theorem Lb:(aRow.lifted==Tryz.prog.liftsFinal)=true:=by kernel_rfl
end Go.Proofs.YteklkljndchjiaaGreat
namespace Go.Proofs.YteklkljndchjiaaGreat
open Go Go.RowKit Go.Deep Go.ChangeShapes Go.WideShapes
@[reducible] def t20FT:FT:=.pair (.int .i64) (.pair tupFTp (.pair (.int .i64) (.pair (.int .i64) (.pair (.int .u64) (.pair (.int .i64) .unit)))))
def t20Of (x:t20FT.Val):T20:=⟨x.1,tupOfp x.2.1,x.2.2.1,x.2.2.2.1,x.2.2.2.2.1,x.2.2.2.2.2.1⟩
theorem JV (w:World) (x:t20FT.Val) (es:List Value) (h:Rep w t20FT x es):es=(t20Of x).cells∧t20Wf (t20Of x):=by
 obtain ⟨a0,⟨x0,⟨y0,y1,y2,⟨⟩⟩,⟨z0,z1,z2,⟨⟩⟩,x3,x4,⟨⟩⟩,a2,a3,a4,a5,⟨⟩⟩:=x
 obtain ⟨_,_,rfl,⟨rfl,_⟩,_,_,rfl,⟨_,_,rfl,⟨rfl,_⟩,_,_,rfl,⟨_,_,rfl,rfl,_,_,rfl,⟨rfl,k1⟩,_,_,rfl,⟨rfl,k2⟩,rfl⟩,_,_,rfl,⟨_,_,rfl,rfl,_,_,rfl,⟨rfl,k3⟩,_,_,rfl,⟨rfl,k4⟩,rfl⟩,_,_,rfl,⟨rfl,_⟩,_,_,rfl,⟨rfl,_⟩,rfl⟩,_,_,rfl,⟨rfl,_⟩,_,_,rfl,⟨rfl,_⟩,_,_,rfl,⟨rfl,k5⟩,_,_,rfl,⟨rfl,_⟩,rfl⟩:=h
 obtain ⟨m1,rfl,h1⟩:=HQ k1
 obtain ⟨m2,rfl,h2⟩:=HQ k2
 obtain ⟨m3,rfl,h3⟩:=HQ k3
 obtain ⟨m4,rfl,h4⟩:=HQ k4
 obtain ⟨m5,rfl,h5⟩:=HQ k5
 refine ⟨rfl,⟨by show (0:Int)≤(m5:Int);omega,by show (m5:Int)<18446744073709551616;omega⟩,?_,?_,?_,?_⟩
 ·
  show ((m1:Int)).toNat<_
  omega
 ·
  show ((m2:Int)).toNat<_
  omega
 ·
  show ((m3:Int)).toNat<_
  omega
 ·
  show ((m4:Int)).toNat<_
  omega
section
variable {H:Type} {enc:TypeId × Value→H}
set_option maxRecDepth 100000 in
theorem KR {r:Reach} {b0:Nat} {w:World} {v:Value} {d:DataW H} {p:List MemPlace} (hv:Value.okWide Tryz.prog w r b0 31 v)
  (h:DataW.Trod enc Tryz.prog w 0 (fun _=>true) true 31 v d p) :
  ∃ (A:Option Addr) (c:Nat) (l:List T20),v=.slice A l.length c∧Reads w w.heap.size 14 A l.length (l.flatMap T20.cells)∧(∀ s ∈ l,t20Wf s)∧l.length≤9223372036854775807:=by
 obtain ⟨a0,len,cap,rfl⟩:=okWide_slice Tryz.underlying31 hv
 obtain ⟨xs,hx⟩:=PT (.slice t20FT) (by kernel_rfl) h
 have hall:∀ v ∈ xs.map t20Of,t20Wf v:=by
  intro v hv
  obtain ⟨x,hx',rfl⟩:=List.mem_map.1 hv
  obtain ⟨A,c,_,_,hr⟩:=hx
  obtain ⟨i,hi,rfl⟩:=List.getElem_of_mem hx'
  obtain ⟨_,_,_,hc⟩:=hr (by omega)
  obtain ⟨es,he,_⟩:=hc i _ (List.getElem?_eq_getElem hi)
  exact (JV w _ _ he).2
 obtain ⟨A,c,hcs,hrd,hl⟩:=Rep.reads t20Of T20.cells (fun _=>rfl) (by decide) (fun x es h=>(JV w x es h).1) hx
 unfold maxLen at *
 simp only [Value.cells,List.cons.injEq,Value.slice.injEq,and_true] at hcs
 obtain ⟨rfl,rfl,rfl⟩:=hcs
 exact ⟨_,_,_,rfl,hrd,hall,hl⟩
end
end Go.Proofs.YteklkljndchjiaaGreat
namespace Go.Proofs.YteklkljndchjiaaGreat
open Go Go.RowKit Go.Deep Go.ChangeShapes Go.WideShapes
set_option maxRecDepth 100000 in
theorem EP (os:Os) (started:os.Started) (H:Type) (enc:TypeId × Value→H) :
  ReturnsInHanded {} Tryz.checked os 4 .any (Rows.statefulPlaysSpec.pre6 enc Tryz.prog Tryz.f4 Rows.statefulPlaysRow.domain false)
   (Rows.statefulPlaysSpec.post enc Tryz.prog Tryz.f4 false true false false):=by
 refine returnsInHanded_of_change (C:=Tryz.checked) own started (by kernel_rfl) Tryz.func4
  (ChangeSpec.witness6 (enc:=enc) (C:=Tryz.checked) false ⟨#[],#[.agg #[.bool false,.int .i64 0,.int .i64 0,.bool false,.int .i64 0,.int .i64 0,.int .u64 0,.int .u64 0,.int .i64 0,.int .i64 0,.int .i64 0,.int .i64 0,.int .i64 0,.int .i64 0],.slice none 0 0],[]⟩ 8 (by kernel_rfl) (by kernel_rfl) (by kernel_rfl) (by kernel_rfl)) ?_
 intro W base args ds gs before hval hW _ _
 refine QF S5 (by kernel_rfl) rfl rfl Tryz.underlying4 ?_ hW ?_
 ·
  intro ds hds
  match ds,hds with
  | [d0,d1],_=>exact ⟨rfl,rfl,rfl⟩
 ·
  obtain ⟨p,q,hA,hV,rfl,hfz,hnd⟩:=hW
  replace hA:DataW.TrodAll enc Tryz.prog W 0 (fun _=>true) true Tryz.f4.params.toList args.toList ds p:=hA
  replace hval:∀ (j:Nat) t v,Tryz.f4.params[j]?=some t→args[j]?=some v→Value.okWide Tryz.prog W .any base t v:=hval
  rw [Tryz.params4] at hA hval
  obtain ⟨v0,vs0,_,ds0,p0,q0,hargs,rfl,rfl,h0,r0⟩:=trodAll_cons hA
  obtain ⟨v1,vs1,_,ds1,p1,q1,rfl,rfl,rfl,h1,r1⟩:=trodAll_cons r0
  obtain ⟨rfl,rfl,rfl⟩:=trodAll_nil r1
  obtain rfl:args=#[v0,v1]:=by cases args;simp_all
  obtain ⟨cs0,rfl,_⟩:=okWide_struct Tryz.underlying70 (hval 0 70 v0 rfl rfl)
  obtain ⟨⟨⟨x0_0_0,x0_0_1,x0_0_2,⟨⟩⟩,⟨x0_1_0,x0_1_1,x0_1_2,⟨⟩⟩,⟨x0_2_0,x0_2_1,⟨⟩⟩,x0_3,⟨x0_4_0,x0_4_1,x0_4_2,x0_4_3,⟨⟩⟩,x0_5,⟨⟩⟩,hx0⟩:=S3 (.pair (.pair .bool (.pair (.int .i64) (.pair (.int .i64) .unit))) (.pair (.pair .bool (.pair (.int .i64) (.pair (.int .i64) .unit))) (.pair (.pair (.int .u64) (.pair (.int .u64) .unit)) (.pair (.int .i64) (.pair (.pair (.int .i64) (.pair (.int .i64) (.pair (.int .i64) (.pair (.int .i64) .unit)))) (.pair (.int .i64) .unit)))))) (by kernel_rfl) h0
  obtain ⟨_,_,hcs0,⟨_,_,rfl,rfl,_,_,rfl,⟨rfl,wx0_0_1⟩,_,_,rfl,⟨rfl,wx0_0_2⟩,rfl⟩,_,_,rfl,⟨_,_,rfl,rfl,_,_,rfl,⟨rfl,wx0_1_1⟩,_,_,rfl,⟨rfl,wx0_1_2⟩,rfl⟩,_,_,rfl,⟨_,_,rfl,⟨rfl,wx0_2_0⟩,_,_,rfl,⟨rfl,wx0_2_1⟩,rfl⟩,_,_,rfl,⟨rfl,wx0_3⟩,_,_,rfl,⟨_,_,rfl,⟨rfl,wx0_4_0⟩,_,_,rfl,⟨rfl,wx0_4_1⟩,_,_,rfl,⟨rfl,wx0_4_2⟩,_,_,rfl,⟨rfl,wx0_4_3⟩,rfl⟩,_,_,rfl,⟨rfl,wx0_5⟩,rfl⟩:=hx0
  obtain rfl:cs0=#[.bool x0_0_0,.int .i64 x0_0_1,.int .i64 x0_0_2,.bool x0_1_0,.int .i64 x0_1_1,.int .i64 x0_1_2,.int .u64 x0_2_0,.int .u64 x0_2_1,.int .i64 x0_3,.int .i64 x0_4_0,.int .i64 x0_4_1,.int .i64 x0_4_2,.int .i64 x0_4_3,.int .i64 x0_5]:=by cases cs0;simpa [Value.cells] using hcs0
  obtain ⟨A1,c1,x1,rfl,hr1,hs1,hl1⟩:=KR (hval 1 31 v1 rfl rfl) h1
  exact Fe ⟨x0_0_0,x0_0_1,x0_0_2,x0_1_0,x0_1_1,x0_1_2,x0_2_0,x0_2_1,x0_3,x0_4_0,x0_4_1,x0_4_2,x0_4_3,x0_5⟩ x1 A1 c1 W hr1 hs1
set_option maxRecDepth 100000 in
set_option maxHeartbeats 4000000 in
theorem EQ:joinedFacts Tryz.prog 4 Tryz.f4 Rows.statefulPlaysSpec Rows.statefulPlaysRow=true:=by
 unfold joinedFacts
 repeat' (with_reducible apply and_t)
 all_goals first | with_reducible exact Pg | ((with_reducible show (_==Program.liftsFinal _)=true);exact Lb) | (as_aux_lemma=>kernel_rfl)
theorem statefulPlays_holds:Rows.StatefulPlaysSaid :=
 OpenClaim.holds_of_wide 4 Tryz.f4 rfl rfl rfl rfl rfl rfl rfl ⟨rfl,rfl,rfl,rfl,rfl⟩ rfl rfl rfl rfl rfl (by as_aux_lemma=>kernel_rfl) Tryz.func4 EQ
  (of_decide_eq_true (by kernel_rfl)) (by unfold Func.isWrapper;rw [if_neg (of_decide_eq_false (by kernel_rfl))];exact ⟨rfl,rfl⟩)
  (fun os started H enc _=>EP os started H enc)
end Go.Proofs.YteklkljndchjiaaGreat
