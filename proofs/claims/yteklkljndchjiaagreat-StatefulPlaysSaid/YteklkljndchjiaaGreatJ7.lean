/- SameInts of the references, and readings of rows. conn: contracts. conn.Run: its contract. cloakroomlaw18.awake: true. -/
import Derived.Test.YteklkljndchjiaaGreatJ2
import Derived.Test.YteklkljndchjiaaGreatChecked
import Derived.WalkLawsBesides
import Derived.Lib.Hide
import Derived.Deep.OwnRows
import Derived.Deep.QuietTactic
import Derived.BigQuiet
namespace Go.Proofs.YteklkljndchjiaaGreat
open Go Go.RowKit Go.Deep
theorem own:ownKnob Tryz.prog.godebug=none:=by kernel_rfl
theorem S5:laidOutB Tryz.prog=true:=by kernel_rfl
theorem E3:(Tryz.prog.info? 3).map (fun i=>(i.zero,i.size,i.bytes))=some (some (.int .i64 0),1,8):=by kernel_rfl
theorem Jn (w:World) (B:Nat) (t:TypeId) (xs:List Value) (hB:w.heap.size<B):Reads (w.alloc (.cells xs.toArray t)) B 1 (some ⟨w.heap.size,0,none⟩) xs.length xs:=by
 refine ⟨by simp,fun _=>⟨_,rfl,hB,fun j u hu=>?_⟩⟩
 have e:(⟨w.heap.size,0,none⟩:Addr).add j=⟨w.heap.size,j,none⟩:=by unfold Addr.add;split <;> simp_all
 rw [e,(Blk.new w t xs.toArray).cell j]
 simpa using hu
theorem HU (w:World) (b B:Nat) (t:TypeId) (v:Value) (hb:b=w.heap.size) (hB:w.heap.size<B):Reads (w.alloc (.cells #[v] t)) B 1 (some ⟨b,0,none⟩) 1 [v]:=by
 subst hb
 exact Jn w B t [v] hB
theorem HV (w:World) (B:Nat) (t:TypeId) (xs:List Int) (hB:w.heap.size<B):Reads (w.alloc (.cells (xs.map (Value.int .i64)).toArray t)) B 1 (some ⟨w.heap.size,0,none⟩) xs.length (xs.map (.int .i64)):=by
 have:=Jn w B t (xs.map (Value.int .i64)) hB
 rwa [List.length_map] at this
theorem Reads.int_at {w:World} {B:Nat} {A:Option Addr} {xs:List Int} {k:IntKind} {i:Nat} (h:Reads w B 1 A xs.length (xs.map (.int k))) (hi:i<xs.length) :
  ∃ ad,A=some ad∧ad.block<B∧w.cell? (ad.add i)=some (.int k (xs.getD i 0)):=by
 obtain ⟨ad,u,rfl,hb,hu,hc⟩:=h.at_ hi
 refine ⟨ad,rfl,hb,?_⟩
 rw [hc,List.getD_eq_getElem?_getD,List.getElem?_eq_getElem hi]
 rw [List.getElem?_map,List.getElem?_eq_getElem hi] at hu
 simpa using hu.symm
def sameL:List Int→List Int→Bool:=fun a b=>a==b
theorem MN (a b:List Int) (h:a.length=b.length) (he:∀ j,j<a.length→a.getD j 0=b.getD j 0):sameL a b=true:=by
 have:a=b:=List.ext_getElem h fun i h1 h2=>by
  have:=he i h1
  simpa [List.getD_eq_getElem?_getD,h1,h2] using this
 simp [sameL,this]
theorem QH (a b:List Int) (j:Nat) (hne:a.getD j 0≠b.getD j 0):sameL a b=false:=by
 simp only [sameL,beq_eq_false_iff_ne]
 rintro rfl
 exact hne rfl
theorem Ph (a b:List Int) (h:a.length≠b.length):sameL a b=false:=by
 simp only [sameL,beq_eq_false_iff_ne]
 rintro rfl
 exact h rfl
set_option maxHeartbeats 400000 in
theorem K6 (A B:Option Addr) (c d:Nat) (a b:List Int) (w:World) (N:Nat) (ha:Reads w N 1 A a.length (a.map (.int .i64))) (hb:Reads w N 1 B b.length (b.map (.int .i64)))
  (hla:a.length≤1000000) (_hlb:b.length≤1000000) :
  Calls Tryz.prog 56 #[.slice A a.length c,.slice B b.length d] w fun e w'=>e=.returned (.bool (sameL a b))∧∃ m,w'=w.drewN m:=by
 by_cases hlen:a.length=b.length
 ·
  have S:=MN a b hlen
  have S2:=fun j=>QH a b j
  have hne:(((a.length:Int)) != (b.length:Int))=false:=by simp [hlen]
  have HL:=Lib.hid hlen
  clear hlen
  go_enter Tryz.func56,Tryz.ntmps56
  go_wp2_with fail
  go_loopw [5] (fun i wr=>∃ k m:Nat,k≤a.length∧i=.int .i64 k∧wr=w.drewN m∧∀ j,j<k→a.getD j 0=b.getD j 0)
   (fun i _=>a.length - (intOf i).toNat)
  case atStart=>exact ⟨0,0,Nat.zero_le _,rfl,rfl,by omega⟩
  case round =>
   obtain ⟨k,m,hk,rfl,rfl,hj⟩:=hrel
   have HJ:=Lib.hid hj
   clear hj
   by_cases hlt:k<a.length
   ·
    have hlt2:k<b.length:=by have:=HL.out;omega
    obtain ⟨aa,rfl,haa,hca⟩:=ha.int_at hlt
    obtain ⟨bb,rfl,hbb,hcb⟩:=hb.int_at hlt2
    obtain ⟨x,hx⟩:∃ x,x=a.getD k 0:=⟨_,rfl⟩
    obtain ⟨y,hy⟩:∃ y,y=b.getD k 0:=⟨_,rfl⟩
    rw [← hx] at hca
    rw [← hy] at hcb
    have HX:=Lib.hid hx
    have HY:=Lib.hid hy
    have hlti:((k:Int))<(a.length:Int):=by omega
    have hlti2:((k:Int))<(b.length:Int):=by omega
    clear hx hy
    by_cases hxy:x=y
    ·
     have hb:(x != y)=false:=by simp [hxy]
     have HXY:=Lib.hid hxy
     clear hxy
     go_wp2_with fail
     go_quiet (fail)
     go_wp2_with fail
     go_roundw
     case rel =>
      refine ⟨k+1,_,by omega,by go_num,rfl,fun j hj=>?_⟩
      by_cases h:j=k
      · rw [h,← HX.out,← HY.out];exact HXY.out
      · exact HJ.out j (by omega)
     case measure=>simp [intOf];omega
    ·
     have hb:(x != y)=true:=by simp [hxy]
     have HXY:=Lib.hid hxy
     clear hxy
     go_wp2_with fail
     go_quiet (fail)
     go_wp2_with fail
     go_ret
     exact ⟨Cq (S2 k (by rw [← HX.out,← HY.out];exact HXY.out)).symm,_,World.drewN_drewN _ _ _⟩
   ·
    go_wp2_with fail
    go_ret
    exact ⟨Cq (S (fun j hj=>HJ.out j (by omega))).symm,_,rfl⟩
 ·
  have hne:(((a.length:Int)) != (b.length:Int))=true:=by simp;omega
  have S:=Ph a b hlen
  go_enter Tryz.func56,Tryz.ntmps56
  go_wp2_with fail
  go_ret
  exact ⟨Cq S.symm,0,rfl⟩
end Go.Proofs.YteklkljndchjiaaGreat
namespace Go.Proofs.YteklkljndchjiaaGreat
open Go Go.RowKit
def hasB (f s:Int):Bool:=bits BinOp.and IntKind.i64 f s==s
def nextS (st b:Int):Int:=if st<1∨3<st then st else if hasB b 4 then 4 else if hasB b 1 then 3 else if hasB b 16 then max st 2 else st
def Fp (p b:Int):Bool:=p==6 && hasB b 2 && !(bits BinOp.and IntKind.i64 b 21 != 0)
def BJ (p b:Int):Int:=if p==17 then 5 else if Fp p b then 1 else 0
theorem QI (f s:Int) (w:World):Calls Tryz.prog 166 #[.int .i64 f,.int .i64 s] w fun e w'=>e=.returned (.int .i64 (nextS f s))∧w=w':=by
 go_enter Tryz.func166,Tryz.ntmps166
 go_wp2
 all_goals go_ret
 all_goals refine ⟨De ?_,rfl⟩
 all_goals (simp only [nextS,hasB];repeat' split)
 all_goals (try simp_all)
 all_goals (try omega)
theorem Pi (f s:Int) (w:World):Calls Tryz.prog 213 #[.int .i64 f,.int .i64 s] w fun e w'=>e=.returned (.bool (Fp f s))∧w=w':=by
 go_enter Tryz.func213,Tryz.ntmps213
 go_wp2
 all_goals go_ret
 all_goals refine ⟨Cq ?_,rfl⟩
 all_goals simp [Fp,hasB, *]
theorem Jo (f s:Int) (w:World):Calls Tryz.prog 143 #[.int .i64 f,.int .i64 s] w fun e w'=>e=.returned (.int .i64 (BJ f s))∧w=w':=by
 go_enter Tryz.func143,Tryz.ntmps143
 go_wp2_with (go_at_call 213;refine (Pi _ _ _).mono ?_;rintro e w' ⟨rfl,rfl⟩)
 all_goals go_ret
 all_goals refine ⟨De ?_,rfl⟩
 all_goals simp [BJ, *]
end Go.Proofs.YteklkljndchjiaaGreat
namespace Go.Proofs.YteklkljndchjiaaGreat
open Go Go.RowKit Go.Deep
def idleS (a b c d s:Int):Int:=if s=1 then a else if s=2 then b else if s=3 then c else if s=5 then d else 0
set_option maxHeartbeats 400000 in
theorem Cz (a b c d:Int) (w:World):Calls Tryz.prog 141 #[.agg #[.int .i64 a,.int .i64 b,.int .i64 c,.int .i64 d]] w fun e w' =>
  e=.returned (.agg #[.int .i64 0,.int .i64 a,.int .i64 b,.int .i64 c,.int .i64 0,.int .i64 d])∧Below w.heap.size w w':=by
 go_enter Tryz.func141,Tryz.ntmps141
 go_wp2
 refine bodyPost_ret (v:=.agg #[.int .i64 0,.int .i64 a,.int .i64 b,.int .i64 c,.int .i64 0,.int .i64 d]) (by simp [results,Tryz.results141,go_sem]) rfl ⟨rfl,?_⟩
 exact bw
set_option maxHeartbeats 400000 in
theorem Dr (a b c d:Int):∀ s:Int,s ∈ [0,1,2,3,4,5]→∀ w,(Instr.index 207 (.agg #[.int .i64 0,.int .i64 a,.int .i64 b,.int .i64 c,.int .i64 0,.int .i64 d]) (.int .i64 s)).run Tryz.prog w=.ok (.int .i64 (idleS a b c d s)) w:=by
 intro s hs w
 simp at hs
 rcases hs with rfl | rfl | rfl | rfl | rfl | rfl
 all_goals kernel_rfl
set_option maxHeartbeats 400000 in
theorem QJ (a b c d s:Int) (w:World):Calls Tryz.prog 216 #[.agg #[.int .i64 a,.int .i64 b,.int .i64 c,.int .i64 d],.int .i64 s] w fun e w'=>e=.returned (.int .i64 (idleS a b c d s))∧Below w.heap.size w w':=by
 by_cases h:0≤s∧s≤5
 ·
  have hs:s=0∨s=1∨s=2∨s=3∨s=4∨s=5:=by omega
  clear h
  have i0:=Dr a b c d
  rcases hs with rfl | rfl | rfl | rfl | rfl | rfl
  ·
   have i0:=i0 0 (by decide)
   go_enter Tryz.func216,Tryz.ntmps216
   go_wp2_with (first | (go_at_call 141;refine (Cz _ _ _ _ _).mono ?_;rintro e w1 ⟨rfl,hb1⟩) | go_in)
   go_ret
   exact ⟨rfl,bw⟩
  ·
   have i0:=i0 1 (by decide)
   go_enter Tryz.func216,Tryz.ntmps216
   go_wp2_with (first | (go_at_call 141;refine (Cz _ _ _ _ _).mono ?_;rintro e w1 ⟨rfl,hb1⟩) | go_in)
   go_ret
   exact ⟨rfl,bw⟩
  ·
   have i0:=i0 2 (by decide)
   go_enter Tryz.func216,Tryz.ntmps216
   go_wp2_with (first | (go_at_call 141;refine (Cz _ _ _ _ _).mono ?_;rintro e w1 ⟨rfl,hb1⟩) | go_in)
   go_ret
   exact ⟨rfl,bw⟩
  ·
   have i0:=i0 3 (by decide)
   go_enter Tryz.func216,Tryz.ntmps216
   go_wp2_with (first | (go_at_call 141;refine (Cz _ _ _ _ _).mono ?_;rintro e w1 ⟨rfl,hb1⟩) | go_in)
   go_ret
   exact ⟨rfl,bw⟩
  ·
   have i0:=i0 4 (by decide)
   go_enter Tryz.func216,Tryz.ntmps216
   go_wp2_with (first | (go_at_call 141;refine (Cz _ _ _ _ _).mono ?_;rintro e w1 ⟨rfl,hb1⟩) | go_in)
   go_ret
   exact ⟨rfl,bw⟩
  ·
   have i0:=i0 5 (by decide)
   go_enter Tryz.func216,Tryz.ntmps216
   go_wp2_with (first | (go_at_call 141;refine (Cz _ _ _ _ _).mono ?_;rintro e w1 ⟨rfl,hb1⟩) | go_in)
   go_ret
   exact ⟨rfl,bw⟩
 ·
  have e:idleS a b c d s=0:=by unfold idleS;repeat' split <;> omega
  replace e:=Lib.hid e
  have h0:s<0∨5<s:=by omega
  clear h
  rcases h0 with h | h
  ·
   have h2:¬ 0≤s:=by omega
   go_enter Tryz.func216,Tryz.ntmps216
   go_wp2
   go_ret
   exact ⟨by rw [e.out];rfl,bw⟩
  ·
   have h2:0≤s:=by omega
   have h3:¬ s≤5:=by omega
   go_enter Tryz.func216,Tryz.ntmps216
   go_wp2
   go_ret
   exact ⟨by rw [e.out];rfl,bw⟩
end Go.Proofs.YteklkljndchjiaaGreat
