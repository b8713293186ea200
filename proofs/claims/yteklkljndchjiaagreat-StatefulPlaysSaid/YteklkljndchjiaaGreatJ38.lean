/- table: the document's Same at equal lists. -/
import Derived.Test.YteklkljndchjiaaGreatJ36
import Derived.Test.YteklkljndchjiaaGreatJ34
import Derived.BigQuiet
namespace Go.Proofs.YteklkljndchjiaaGreat
open Go Go.RowKit Go.Deep Go.Maps Go.ChangeMaps
theorem entB_self (x:Slt):entB x x=true:=by
 unfold entB
 simp [Qd]
theorem KF (x:Slt) (w:World):(binOp .neq 52 x.val x.val).run Tryz.prog w=.ok (.bool false) w:=by
 have h:=P6 x x w
 rw [run_eql_struct] at h
 rw [run_neq_struct]
 cases hh:(Op.equalIn 10000 52 x.val x.val).run Tryz.prog w with
 | ok b w' =>
  rw [hh] at h
  simp only [Result.andThen] at h ⊢
  simp only [Result.ok.injEq,Value.bool.injEq] at h
  obtain ⟨h1,rfl⟩:=h
  rw [h1,entB_self]
  rfl
 | _=>rw [hh] at h;simp [Result.andThen] at h
set_option maxRecDepth 100000 in
set_option maxHeartbeats 8000000 in
theorem KG (w:World) (A B:Option Addr) (qa qb:Nat) (L:List Slt) (hA:Reads w w.heap.size 14 A L.length (L.flatMap Slt.ent)) (hB:Reads w w.heap.size 14 B L.length (L.flatMap Slt.ent)) (hl:L.length≤1000000) :
  Calls Tryz.prog 23 #[.slice A L.length qa,.slice B L.length qb] w fun e w'=>e=.returned (.bool true)∧Below w.heap.size w w':=by
 replace hA:=Lib.hid hA
 replace hB:=Lib.hid hB
 have hlen:((L.length:Int) != (L.length:Int))=false:=by simp
 go_enter Tryz.func23,Tryz.ntmps23
 go_wp2_with fail
 go_loopw [5] (fun iv wr=>∃ k m:Nat,k≤L.length∧iv=.int .i64 (k:Nat)∧wr=w.drewN m) (fun iv _=>L.length - (intOf iv).toNat)
 case atStart=>exact ⟨0,0,by omega,rfl,rfl⟩
 case round =>
  obtain ⟨k,m,hk,rfl,hwr⟩:=hrel
  have hb:Below w.heap.size w wr:=by rw [hwr];exact Al (Below.refl _ _) m
  replace hwr:=Lib.hid hwr
  by_cases hlt:k<L.length
  ·
   have hlti:(k:Int)<(L.length:Int):=by omega
   have hk0:(0:Int)≤(k:Int):=by omega
   obtain ⟨aa,rfl,-,hca⟩:=((hA.out.below hb)).rec_at Slt.ent (fun _=>rfl) hlt
   obtain ⟨ab,rfl,-,hcb⟩:=((hB.out.below hb)).rec_at Slt.ent (fun _=>rfl) hlt
   obtain ⟨x,hx⟩:∃ x,L[k]=x:=⟨_,rfl⟩
   rw [hx] at hca hcb
   have c0:wr.cell? (aa.add (k * 14))=some (.int .i64 x.t.p):=hca 0 _ rfl
   have c1:wr.cell? ⟨(aa.add (k * 14)).block,(aa.add (k * 14)).off+1,none⟩=some (.bool x.t.v):=hca 1 _ rfl
   have c2:wr.cell? ⟨(aa.add (k * 14)).block,(aa.add (k * 14)).off+2,none⟩=some (.int .u64 x.t.hi):=hca 2 _ rfl
   have c3:wr.cell? ⟨(aa.add (k * 14)).block,(aa.add (k * 14)).off+3,none⟩=some (.int .u64 x.t.lo):=hca 3 _ rfl
   have c4:wr.cell? ⟨(aa.add (k * 14)).block,(aa.add (k * 14)).off+4,none⟩=some (.bool x.t.v'):=hca 4 _ rfl
   have c5:wr.cell? ⟨(aa.add (k * 14)).block,(aa.add (k * 14)).off+5,none⟩=some (.int .u64 x.t.hi'):=hca 5 _ rfl
   have c6:wr.cell? ⟨(aa.add (k * 14)).block,(aa.add (k * 14)).off+6,none⟩=some (.int .u64 x.t.lo'):=hca 6 _ rfl
   have c7:wr.cell? ⟨(aa.add (k * 14)).block,(aa.add (k * 14)).off+7,none⟩=some (.int .i64 x.t.sp):=hca 7 _ rfl
   have c8:wr.cell? ⟨(aa.add (k * 14)).block,(aa.add (k * 14)).off+8,none⟩=some (.int .i64 x.t.dp):=hca 8 _ rfl
   have c9:wr.cell? ⟨(aa.add (k * 14)).block,(aa.add (k * 14)).off+9,none⟩=some (.int .i64 x.bk):=hca 9 _ rfl
   have c10:wr.cell? ⟨(aa.add (k * 14)).block,(aa.add (k * 14)).off+10,none⟩=some (.int .i64 x.st):=hca 10 _ rfl
   have c11:wr.cell? ⟨(aa.add (k * 14)).block,(aa.add (k * 14)).off+11,none⟩=some (.int .i64 x.sl):=hca 11 _ rfl
   have c12:wr.cell? ⟨(aa.add (k * 14)).block,(aa.add (k * 14)).off+12,none⟩=some (.int .u64 x.gen):=hca 12 _ rfl
   have c13:wr.cell? ⟨(aa.add (k * 14)).block,(aa.add (k * 14)).off+13,none⟩=some (.int .i64 x.due):=hca 13 _ rfl
   have d0:wr.cell? (ab.add (k * 14))=some (.int .i64 x.t.p):=hcb 0 _ rfl
   have d1:wr.cell? ⟨(ab.add (k * 14)).block,(ab.add (k * 14)).off+1,none⟩=some (.bool x.t.v):=hcb 1 _ rfl
   have d2:wr.cell? ⟨(ab.add (k * 14)).block,(ab.add (k * 14)).off+2,none⟩=some (.int .u64 x.t.hi):=hcb 2 _ rfl
   have d3:wr.cell? ⟨(ab.add (k * 14)).block,(ab.add (k * 14)).off+3,none⟩=some (.int .u64 x.t.lo):=hcb 3 _ rfl
   have d4:wr.cell? ⟨(ab.add (k * 14)).block,(ab.add (k * 14)).off+4,none⟩=some (.bool x.t.v'):=hcb 4 _ rfl
   have d5:wr.cell? ⟨(ab.add (k * 14)).block,(ab.add (k * 14)).off+5,none⟩=some (.int .u64 x.t.hi'):=hcb 5 _ rfl
   have d6:wr.cell? ⟨(ab.add (k * 14)).block,(ab.add (k * 14)).off+6,none⟩=some (.int .u64 x.t.lo'):=hcb 6 _ rfl
   have d7:wr.cell? ⟨(ab.add (k * 14)).block,(ab.add (k * 14)).off+7,none⟩=some (.int .i64 x.t.sp):=hcb 7 _ rfl
   have d8:wr.cell? ⟨(ab.add (k * 14)).block,(ab.add (k * 14)).off+8,none⟩=some (.int .i64 x.t.dp):=hcb 8 _ rfl
   have d9:wr.cell? ⟨(ab.add (k * 14)).block,(ab.add (k * 14)).off+9,none⟩=some (.int .i64 x.bk):=hcb 9 _ rfl
   have d10:wr.cell? ⟨(ab.add (k * 14)).block,(ab.add (k * 14)).off+10,none⟩=some (.int .i64 x.st):=hcb 10 _ rfl
   have d11:wr.cell? ⟨(ab.add (k * 14)).block,(ab.add (k * 14)).off+11,none⟩=some (.int .i64 x.sl):=hcb 11 _ rfl
   have d12:wr.cell? ⟨(ab.add (k * 14)).block,(ab.add (k * 14)).off+12,none⟩=some (.int .u64 x.gen):=hcb 12 _ rfl
   have d13:wr.cell? ⟨(ab.add (k * 14)).block,(ab.add (k * 14)).off+13,none⟩=some (.int .i64 x.due):=hcb 13 _ rfl
   have hNE:=fun W=>KF x W
   have hG:Tryz.prog.eqGuardType Tryz.prog.depth 52=false:=by kernel_rfl
   clear hca hcb hx
   go_upto_region 6 with fail
   go_quiet (fail)
   have hwq:wr.drewN nq=w.drewN (m+nq):=by rw [hwr.out,World.drewN_drewN]
   replace hwq:=Lib.hid hwq
   clear c0 d0 c1 d1 c2 d2 c3 d3 c4 d4 c5 d5 c6 d6 c7 d7 c8 d8 c9 d9 c10 d10 c11 d11 c12 d12 c13 d13 hNE hG hb
   go_wp2_with fail
   go_roundw
   case rel=>exact ⟨k+1,m+nq,by omega,by go_num,hwq.out⟩
   case measure=>simp [intOf];omega
  ·
   obtain rfl:k=L.length:=by omega
   have hlti:¬ ((L.length:Nat):Int)<(L.length:Int):=by omega
   go_wp2_with fail
   go_ret
   exact ⟨rfl,hb⟩
end Go.Proofs.YteklkljndchjiaaGreat
