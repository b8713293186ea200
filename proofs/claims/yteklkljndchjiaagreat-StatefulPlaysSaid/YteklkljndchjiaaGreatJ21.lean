/- Plain arithmetic of products in two halves. num: contracts. num: the program's functions and the reference's. num: masks, widths, scaled and rounded numbers. num: Scale, Round, Ahead; awake. cookie: payloads and masks as plain numbers. -/
import Derived.Test.YteklkljndchjiaaGreatJ2
import Derived.Laws.BitsAllLaws
import Derived.Test.YteklkljndchjiaaGreatJ7
import Derived.Test.YteklkljndchjiaaGreatShelf
import Derived.Deep.RegionHeld3
import Derived.Laws.Bits64
import Derived.Laws.Bits64b
namespace Go.Proofs.YteklkljndchjiaaGreat
open Go Go.RowKit
theorem wrap_u64 (n:Int):IntKind.u64.wrap n=n % 18446744073709551616:=by simp [IntKind.wrap,IntKind.bits,IntKind.signed]
theorem Hc (x y:Nat) (hx:x<18446744073709551616) (h2:x % 2=0) (hy:y<2):bits .or .u64 (x:Int) (y:Int)=((x+y:Nat):Int):=by
 rw [u64_or_nat x y hx (by omega),nat_join 1 x y (by simpa using h2) (by omega)]
def dbl (hi lo add:Nat):Nat:=(hi * 18446744073709551616+lo) * 2+add
theorem LB (hi lo add:Nat) (_h1:hi<18446744073709551616) (h2:lo<18446744073709551616) (h3:add<18446744073709551616) (hb:dbl hi lo add<340282366920938463463374607431768211456) :
  (IntKind.u64.wrap (IntKind.u64.wrap ((lo:Int) * 2)+(add:Int))=((dbl hi lo add % 18446744073709551616:Nat):Int)) ∧
  (IntKind.u64.wrap (IntKind.u64.wrap ((lo:Int) * 2)+(add:Int))<IntKind.u64.wrap ((lo:Int) * 2)→IntKind.u64.wrap (bits BinOp.or IntKind.u64 (IntKind.u64.wrap ((hi:Int) * 2)) ((lo:Int) / 9223372036854775808)+1)=((dbl hi lo add / 18446744073709551616:Nat):Int)) ∧
  (IntKind.u64.wrap ((lo:Int) * 2)≤IntKind.u64.wrap (IntKind.u64.wrap ((lo:Int) * 2)+(add:Int))→bits BinOp.or IntKind.u64 (IntKind.u64.wrap ((hi:Int) * 2)) ((lo:Int) / 9223372036854775808)=((dbl hi lo add / 18446744073709551616:Nat):Int)):=by
 unfold dbl at hb ⊢
 have e1:IntKind.u64.wrap ((hi:Int) * 2)=((hi * 2 % 18446744073709551616:Nat):Int):=by rw [wrap_u64];omega
 have e2:(lo:Int) / 9223372036854775808=((lo / 9223372036854775808:Nat):Int):=by omega
 have e3:=Hc (hi * 2 % 18446744073709551616) (lo / 9223372036854775808) (by omega) (by omega) (by omega)
 rw [e1,e2,e3]
 simp only [wrap_u64]
 omega
def part (a b i:Nat):Nat:=a / 2 ^ i * b
theorem PA (a b i:Nat):part a b i=part a b (i+1) * 2+(if a / 2 ^ i % 2=1 then b else 0):=by
 unfold part
 have e:a / 2 ^ i=a / 2 ^ (i+1) * 2+a / 2 ^ i % 2:=by
  rw [Nat.pow_succ,← Nat.div_div_eq_div_mul];omega
 have hm:a / 2 ^ i % 2=0∨a / 2 ^ i % 2=1:=by omega
 generalize a / 2 ^ i=q at *
 generalize a / 2 ^ (i+1)=r at *
 rcases hm with h | h
 ·
  rw [if_neg (by omega),e,h]
  rw [Nat.add_zero,Nat.add_zero,Nat.mul_assoc,Nat.mul_comm 2 b,← Nat.mul_assoc]
 · rw [if_pos h,e,h,Nat.add_mul,Nat.one_mul,Nat.mul_assoc,Nat.mul_comm 2 b,← Nat.mul_assoc]
theorem OH (a b i:Nat) (ha:a<18446744073709551616) (hb:b<18446744073709551616):part a b i<340282366920938463463374607431768211456:=by
 unfold part
 have h1:a / 2 ^ i≤a:=Nat.div_le_self _ _
 have h2:a / 2 ^ i * b≤18446744073709551615 * 18446744073709551615:=Nat.mul_le_mul (by omega) (by omega)
 omega
theorem R3 (a b:Nat) (ha:a<18446744073709551616):part a b 64=0:=by
 unfold part
 rw [Nat.div_eq_of_lt ha,Nat.zero_mul]
theorem PB (a b:Nat):part a b 0=a * b:=by simp [part]
end Go.Proofs.YteklkljndchjiaaGreat
namespace Go.Proofs.YteklkljndchjiaaGreat
open Go Go.RowKit Go.Deep
theorem OI {k l:IntKind} {a b c d:Int} (h:a=b) (h2:c=d):Ending.returned (.tuple #[.int k a,.int l c])=.returned (.tuple #[.int k b,.int l d]):=by rw [h,h2]
theorem PD (hi lo add:Nat) (w:World) (h1:hi<18446744073709551616) (h2:lo<18446744073709551616) (h3:add<18446744073709551616) (hb:dbl hi lo add<340282366920938463463374607431768211456) :
  Calls Tryz.prog 292 #[.int .u64 hi,.int .u64 lo,.int .u64 add] w fun e w'=>e=.returned (.tuple #[.int .u64 ((dbl hi lo add / 18446744073709551616:Nat):Int),.int .u64 ((dbl hi lo add % 18446744073709551616:Nat):Int)])∧w=w':=by
 have T:=LB hi lo add h1 h2 h3 hb
 replace T:=Lib.hid T
 clear hb
 go_enter Tryz.func292,Tryz.ntmps292
 go_wp2
 all_goals go_ret2
 all_goals obtain ⟨T1,T2,T3⟩:=T.out
 · exact ⟨OI (T2 (by assumption)) T1,rfl⟩
 · exact ⟨OI (T3 (by assumption)) T1,rfl⟩
theorem PE (hi lo add:Int) (w:World) (h0:0≤hi) (h1:hi<18446744073709551616) (l0:0≤lo) (h2:lo<18446744073709551616) (a0:0≤add) (h3:add<18446744073709551616) (P:Int) (hP:(hi * 18446744073709551616+lo) * 2+add=P) (hb:P<340282366920938463463374607431768211456) :
  Calls Tryz.prog 292 #[.int .u64 hi,.int .u64 lo,.int .u64 add] w fun e w'=>e=.returned (.tuple #[.int .u64 (P / 18446744073709551616),.int .u64 (P % 18446744073709551616)])∧w=w':=by
 obtain ⟨hi,rfl⟩:=Int.eq_ofNat_of_zero_le h0
 obtain ⟨lo,rfl⟩:=Int.eq_ofNat_of_zero_le l0
 obtain ⟨add,rfl⟩:=Int.eq_ofNat_of_zero_le a0
 have e:((dbl hi lo add:Nat):Int)=P:=by rw [← hP];simp [dbl]
 have T:=PD hi lo add w (by omega) (by omega) (by omega) (by omega)
 rw [Int.natCast_ediv,Int.natCast_emod,e] at T
 exact T
def bitAt (a j:Nat):Bool:=a / 2 ^ j % 2==1
theorem Ni (a j:Nat) (ha:a<18446744073709551616):(bits BinOp.and IntKind.u64 ((a:Int) / 2 ^ j) 1==1)=bitAt a j:=by
 have e:(a:Int) / 2 ^ j=((a / 2 ^ j:Nat):Int):=by simp
 have hl:a / 2 ^ j≤a:=Nat.div_le_self _ _
 rw [e,show (1:Int)=((1:Nat):Int) from rfl,u64_and_nat _ _ (by omega) (by omega),Nat.and_one_is_mod,bitAt,Bool.eq_iff_iff]
 simp only [beq_iff_eq]
 omega
theorem R5 (a b j:Nat):(part a b j:Int)=(part a b (j+1):Int) * 2+(if bitAt a j then (b:Int) else 0):=by
 have:=PA a b j
 unfold bitAt
 by_cases h:a / 2 ^ j % 2=1
 · rw [if_pos h] at this;simp [h];omega
 · rw [if_neg h] at this;simp [h];omega
set_option maxHeartbeats 400000 in
theorem Sm (a b:Nat) (w:World) (ha:a<18446744073709551616) (hb:b<18446744073709551616) :
  Calls Tryz.prog 262 #[.int .u64 a,.int .u64 b] w fun e w'=>e=.returned (.tuple #[.int .u64 (((a * b:Nat):Int) / 18446744073709551616),.int .u64 (((a * b:Nat):Int) % 18446744073709551616)])∧w=w':=by
 go_enter Tryz.func262,Tryz.ntmps262
 go_wp2
 go_loop [6,7,8] (fun h l i=>∃ (k:Nat) (P:Int),k≤64∧i=.int .i64 ((k:Int) - 1)∧P=part a b k∧h=.int .u64 (P / 18446744073709551616)∧l=.int .u64 (P % 18446744073709551616)) (fun _ _ i=>(intOf i+1).toNat)
 case atStart=>exact ⟨64,0,Nat.le_refl _,rfl,by rw [R3 a b ha];rfl,rfl,rfl⟩
 case round =>
  obtain ⟨k,P,hk,rfl,hP,rfl,rfl⟩:=hrel
  have hP1:=OH a b k ha hb
  have hP0:0≤P:=by omega
  have hP2:P<340282366920938463463374607431768211456:=by omega
  by_cases hz:k=0
  ·
   subst hz
   rw [PB] at hP
   replace hP:=Lib.hid hP
   have h0:¬ (0≤((0:Nat):Int) - 1):=by omega
   clear hP1
   go_wp2
   go_ret2
   rw [hP.out]
   exact ⟨rfl,rfl⟩
  ·
   obtain ⟨j,rfl⟩:∃ j,k=j+1:=⟨k - 1,by omega⟩
   have hj:((j+1:Nat):Int) - 1=(j:Int):=by omega
   rw [hj]
   clear hj hz
   have hj0:0≤(j:Int):=by omega
   have hj63:(j:Int)≤63:=by omega
   have B:=Ni a j ha
   have S:=R5 a b j
   have hP3:=OH a b j ha hb
   rw [← hP] at S
   obtain ⟨Q,hQ⟩:∃ Q:Int,Q=part a b j:=⟨_,rfl⟩
   have C:=fun add=>PE (P / 18446744073709551616) (P % 18446744073709551616) add w (by omega) (by omega) (by omega) (by omega)
   replace C:=Lib.hid C
   have hQ3:Q<340282366920938463463374607431768211456:=by omega
   rw [← hQ] at S
   rcases hbit:bitAt a j with _ | _
   ·
    rw [hbit] at B S
    simp at S
    replace S:=Lib.hid S
    replace hQ:=Lib.hid hQ
    replace hP:=Lib.hid hP
    clear hP1 hP3 hbit
    go_wp2_with fail
    refine (C.out 0 (by omega) (by omega) Q (by rw [S.out];omega) hQ3).mono ?_
    rintro e w' ⟨rfl,rfl⟩
    go_wp2_with fail
    go_round
    case rel=>exact ⟨j,Q,by omega,by go_num,hQ.out,rfl,rfl⟩
    case measure=>simp [intOf]
   ·
    rw [hbit] at B S
    simp at S
    replace S:=Lib.hid S
    replace hQ:=Lib.hid hQ
    replace hP:=Lib.hid hP
    clear hP1 hP3 hbit
    go_wp2_with fail
    refine (C.out b (by omega) (by omega) Q (by rw [S.out];omega) hQ3).mono ?_
    rintro e w' ⟨rfl,rfl⟩
    go_wp2_with fail
    go_round
    case rel=>exact ⟨j,Q,by omega,by go_num,hQ.out,rfl,rfl⟩
    case measure=>simp [intOf]
theorem LC (a b:Nat) (w:World) (ha:a<18446744073709551616) (hb:b<18446744073709551616) :
  Calls Tryz.prog 255 #[.int .u64 a,.int .u64 b] w fun e w'=>e=.returned (.agg #[.int .u64 (((a * b:Nat):Int) / 18446744073709551616),.int .u64 (((a * b:Nat):Int) % 18446744073709551616)])∧Below w.heap.size w w':=by
 go_enter Tryz.func255,Tryz.ntmps255
 go_wp2_with (go_at_call 291;refine (Tryz.bits_Mul64 _ _ ha hb _).mono ?_;rintro e w' ⟨rfl,rfl⟩)
 refine bodyPost_ret (v:=.agg #[.int .u64 (((a * b:Nat):Int) / 18446744073709551616),.int .u64 (((a * b:Nat):Int) % 18446744073709551616)]) (by simp [results,Tryz.results255,go_sem]) rfl ⟨rfl,bw⟩
def cmpI (x y:Int):Int:=if x<y then -1 else if y<x then 1 else 0
def orI (x y:Int):Int:=if x=0 then y else x
theorem or_any (x y:Int) (g:Nat) (w:World) (h:Blk w g 3 #[.int .i64 x,.int .i64 y]):Calls Tryz.prog 235 #[.slice (some ⟨g,0,none⟩) 2 2] w fun e w'=>e=.returned (.int .i64 (orI x y))∧w=w':=by
 have c0:=h.cell 0
 have c1:=h.cell 1
 simp at c0 c1
 go_enter Tryz.func235,Tryz.ntmps235
 go_wp2_with fail
 refine wp_loop_rounds 3 ?_
 iterate 3 (all_goals (try (rw [rounds_succ]));all_goals (go_wp2_with fail))
 all_goals go_ret
 all_goals refine ⟨De ?_,rfl⟩
 all_goals simp_all [orI]
def maskI (k:Int):Int:=if k<0∨64<k then 0 else ((2 ^ k.toNat - 1:Nat):Int)
theorem R7:∀ k:Fin 65,bits BinOp.xor IntKind.u64 IntKind.u64.max (IntKind.u64.wrap (18446744073709551615 * 2 ^ k.val))=((2 ^ k.val - 1:Nat):Int):=by decide +kernel
theorem EH (k:Int) (w:World):Calls Tryz.prog 157 #[.int .i64 k] w fun e w'=>e=.returned (.int .u64 (maskI k))∧w=w':=by
 go_enter Tryz.func157,Tryz.ntmps157
 go_wp2
 all_goals go_ret
 all_goals refine ⟨De ?_,rfl⟩
 · unfold maskI;rw [if_pos (by assumption)]
 ·
  have h:0≤k∧k≤64:=by assumption
  unfold maskI;rw [if_neg (by omega)]
  exact R7 ⟨k.toNat,by omega⟩
 ·
  have h:k<0:=by assumption
  unfold maskI;rw [if_pos (by omega)]
theorem or_one (P:Int) (h0:0≤P) (h1:P<9223372036854775808):bits BinOp.or IntKind.u64 (P * 2) 1=P * 2+1:=by
 obtain ⟨p,rfl⟩:=Int.eq_ofNat_of_zero_le h0
 have:=Hc (p * 2) 1 (by omega) (by omega) (by omega)
 rw [show (p:Int) * 2=((p * 2:Nat):Int) by omega,show (1:Int)=((1:Nat):Int) from rfl,this]
 omega
theorem pow_le (i:Nat) (h:i<64):2 ^ i≤9223372036854775808:=Nat.le_trans (Nat.pow_le_pow_right (by omega) (show i≤63 by omega)) (by decide)
theorem Ci (k:Int) (w:World):Calls Tryz.prog 161 #[.int .i64 k] w fun e w'=>e=.returned (.int .u64 (maskI k))∧w=w':=by
 by_cases h:k<0∨64<k
 ·
  have e:maskI k=0:=by unfold maskI;rw [if_pos h]
  replace e:=Lib.hid e
  rcases h with h | h
  ·
   have h0:¬ 0<k:=by omega
   go_enter Tryz.func161,Tryz.ntmps161
   go_wp2_with fail
   refine wp_loop_rounds 1 ?_
   rw [rounds_succ]
   go_wp2_with fail
   go_ret
   exact ⟨by rw [e.out];rfl,rfl⟩
  ·
   have h0:0<k:=by omega
   have h1:¬ k≤64:=by omega
   go_enter Tryz.func161,Tryz.ntmps161
   go_wp2_with fail
   refine wp_loop_rounds 1 ?_
   rw [rounds_succ]
   go_wp2_with fail
   go_ret
   exact ⟨by rw [e.out];rfl,rfl⟩
 ·
  have h64:k≤64:=by omega
  obtain ⟨m,rfl⟩:∃ m:Nat,k=m:=⟨k.toNat,by omega⟩
  have e:maskI m=((2 ^ m - 1:Nat):Int):=by unfold maskI;rw [if_neg h];rfl
  replace e:=Lib.hid e
  clear h
  go_enter Tryz.func161,Tryz.ntmps161
  go_wp2_with fail
  go_loop [3,4] (fun n i=>∃ (j:Nat) (P:Int),j≤m∧i=.int .i64 (j:Nat)∧n=.int .u64 P∧P=((2 ^ j - 1:Nat):Int)) (fun _ i=>m - (intOf i).toNat)
  case atStart=>exact ⟨0,0,Nat.zero_le _,rfl,rfl,rfl⟩
  case round =>
   obtain ⟨j,P,hj,rfl,rfl,hP⟩:=hrel
   by_cases hlt:j<m
   ·
    have hp:=pow_le j (by omega)
    have hpos:0<2 ^ j:=Nat.pow_pos (by omega)
    have h0:0≤P:=by omega
    have h1:P<9223372036854775808:=by omega
    have O:=or_one P h0 h1
    have hs:P * 2+1=((2 ^ (j+1) - 1:Nat):Int):=by rw [Nat.pow_succ];omega
    replace hs:=Lib.hid hs
    replace hP:=Lib.hid hP
    clear hp hpos
    go_wp2_with fail
    go_round
    case rel=>exact ⟨j+1,P * 2+1,by omega,by go_num,rfl,hs.out⟩
    case measure=>simp [intOf];omega
   ·
    obtain rfl:j=m:=by omega
    replace hP:=Lib.hid hP
    go_wp2_with fail
    go_ret
    exact ⟨De (by rw [e.out,← hP.out]),rfl⟩
def D3 (x n:Int):Int:=if n<1∨2147483648<n then 0 else x * n / 18446744073709551616
theorem R8 (p q:Int) (w:World):(Instr.index 304 (.agg #[.int .u64 p,.int .u64 q]) (.int .i64 0)).run Tryz.prog w=.ok (.int .u64 p) w:=by kernel_rfl
theorem I7 (x n:Nat) (hx:x<18446744073709551616) (hn:1≤n):x * n / 18446744073709551616<n:=by
 rw [Nat.div_lt_iff_lt_mul (by omega),Nat.mul_comm n]
 exact Nat.mul_lt_mul_of_pos_right hx (by omega)
theorem PF (x:Nat) (n:Int) (w:World) (hx:x<18446744073709551616):Calls Tryz.prog 210 #[.int .u64 x,.int .i64 n] w fun e w'=>e=.returned (.int .i64 (D3 x n))∧Below w.heap.size w w':=by
 by_cases h:n<1∨2147483648<n
 ·
  have e:D3 x n=0:=by unfold D3;rw [if_pos h]
  replace e:=Lib.hid e
  go_enter Tryz.func210,Tryz.ntmps210
  go_wp2_with fail
  all_goals go_ret
  all_goals exact ⟨by rw [e.out];rfl,bw⟩
 ·
  have h1:1≤n:=by omega
  have h2:n≤2147483648:=by omega
  obtain ⟨m,rfl⟩:∃ m:Nat,n=m:=⟨n.toNat,by omega⟩
  have e:D3 x m=((x * m:Nat):Int) / 18446744073709551616:=by unfold D3;rw [if_neg h];simp
  have hlt:=I7 x m hx (by omega)
  have C:=LC x m
  obtain ⟨P,hP⟩:∃ P:Int,P=((x * m:Nat):Int) / 18446744073709551616:=⟨_,rfl⟩
  obtain ⟨Q,hQ⟩:∃ Q:Int,Q=((x * m:Nat):Int) % 18446744073709551616:=⟨_,rfl⟩
  rw [← hP] at C e
  rw [← hQ] at C
  have hP0:0≤P:=by omega
  have hP1:P≤2147483648:=by omega
  replace C:=Lib.hid C
  replace e:=Lib.hid e
  clear hP hQ hlt h
  have hi:=R8 P Q
  go_enter Tryz.func210,Tryz.ntmps210
  go_wp2_with (go_at_call 255;refine (C.out _ hx (by omega)).mono ?_;rintro e w1 ⟨rfl,hb1⟩)
  go_ret
  exact ⟨by rw [e.out];rfl,bw⟩
theorem Kk (x:Nat) (n:Int) (w:World) (hx:x<18446744073709551616):Calls Tryz.prog 218 #[.int .u64 x,.int .i64 n] w fun e w'=>e=.returned (.int .i64 (D3 x n))∧w=w':=by
 by_cases h:n<1∨2147483648<n
 ·
  have e:D3 x n=0:=by unfold D3;rw [if_pos h]
  replace e:=Lib.hid e
  go_enter Tryz.func218,Tryz.ntmps218
  go_wp2_with fail
  all_goals go_ret
  all_goals exact ⟨by rw [e.out];rfl,rfl⟩
 ·
  have h1:1≤n:=by omega
  have h2:n≤2147483648:=by omega
  obtain ⟨m,rfl⟩:∃ m:Nat,n=m:=⟨n.toNat,by omega⟩
  have e:D3 x m=((x * m:Nat):Int) / 18446744073709551616:=by unfold D3;rw [if_neg h];simp
  have hlt:=I7 x m hx (by omega)
  have C:=Sm x m
  obtain ⟨P,hP⟩:∃ P:Int,P=((x * m:Nat):Int) / 18446744073709551616:=⟨_,rfl⟩
  obtain ⟨Q,hQ⟩:∃ Q:Int,Q=((x * m:Nat):Int) % 18446744073709551616:=⟨_,rfl⟩
  rw [← hP] at C e
  rw [← hQ] at C
  have hP0:0≤P:=by omega
  have hP1:P≤2147483648:=by omega
  replace C:=Lib.hid C
  replace e:=Lib.hid e
  clear hP hQ hlt h
  go_enter Tryz.func218,Tryz.ntmps218
  go_wp2_with (go_at_call 262;refine (C.out _ hx (by omega)).mono ?_;rintro e w1 ⟨rfl,rfl⟩)
  go_ret
  exact ⟨by rw [e.out];rfl,rfl⟩
def layOk (wd:Bool) (sl gn:Int):Bool:=decide (0≤sl∧sl≤12∧0≤gn∧gn≤(if wd then 63 else 16) - sl)
def layW (wd:Bool) (sl gn:Int):Int:=if layOk wd sl gn then (if wd then 64 else 16) else 0
theorem PG {wd:Bool} {sl gn:Int}:layOk wd sl gn=true ↔ 0≤sl∧sl≤12∧0≤gn∧gn≤(if wd then 63 else 16) - sl:=by
 unfold layOk
 exact decide_eq_true_iff
theorem C9 {wd:Bool} {sl gn:Int} (h:layOk wd sl gn=true):∃ a b:Nat,sl=a∧gn=b∧a≤12∧a+b≤(if wd then 63 else 16):=by
 have:=PG.1 h
 refine ⟨sl.toNat,gn.toNat,by omega,by omega,by omega,?_⟩
 cases wd <;> simp at this ⊢ <;> omega
theorem E5 (k:Nat) (h:k≤64):maskI (k:Int)=((2 ^ k - 1:Nat):Int):=by
 unfold maskI
 rw [if_neg (by omega)]
 rfl
theorem pow63 (k:Nat) (h:k≤63):2 ^ k≤9223372036854775808:=Nat.le_trans (Nat.pow_le_pow_right (by omega) h) (by decide)
theorem I8 (k:Nat) (h:k≤64):2 ^ k≤18446744073709551616:=Nat.le_trans (Nat.pow_le_pow_right (by omega) h) (by decide)
theorem E6 (x k:Nat) (hx:x<18446744073709551616) (h:k≤64):bits BinOp.and IntKind.u64 (x:Int) (maskI (k:Int))=((x % 2 ^ k:Nat):Int):=by
 have:=I8 k h
 have h0:0<2 ^ k:=Nat.pow_pos (by omega)
 rw [E5 k h,bits_and_u64_nat x (2 ^ k - 1) hx (by omega),Nat.and_two_pow_sub_one_eq_mod]
theorem wrapN (x:Nat) (h:x<18446744073709551616):IntKind.u64.wrap (x:Int)=(x:Int):=by
 rw [IntKind.wrap_u64]
 omega
def packV (sl gn slot gen:Nat):Nat:=gen % 2 ^ gn * 2 ^ sl+slot
theorem Ga {sl gn slot gen:Nat} (h:slot<2 ^ sl):packV sl gn slot gen<2 ^ (sl+gn):=by
 unfold packV
 have h1:gen % 2 ^ gn<2 ^ gn:=Nat.mod_lt _ (Nat.pow_pos (by omega))
 have h2:(gen % 2 ^ gn+1) * 2 ^ sl≤2 ^ gn * 2 ^ sl:=Nat.mul_le_mul_right _ h1
 rw [Nat.pow_add,Nat.mul_comm (2 ^ sl)]
 rw [Nat.succ_mul] at h2
 omega
theorem PH (sl gn slot gen:Nat) (h1:sl+gn≤63) (hs:slot<2 ^ sl) (hg:gen<18446744073709551616) :
  bits BinOp.or IntKind.u64 (IntKind.u64.wrap (bits BinOp.and IntKind.u64 (gen:Int) (maskI (gn:Int)) * 2 ^ sl)) (slot:Int)=((packV sl gn slot gen:Nat):Int):=by
 have hl:=Ga (gn:=gn) (gen:=gen) hs
 have h63:=pow63 (sl+gn) h1
 have h63':=pow63 sl (by omega)
 rw [E6 gen gn hg (by omega)]
 have e:((gen % 2 ^ gn:Nat):Int) * 2 ^ sl=((gen % 2 ^ gn * 2 ^ sl:Nat):Int):=by simp
 rw [e]
 have hb:gen % 2 ^ gn * 2 ^ sl<18446744073709551616:=by
  unfold packV at hl
  omega
 rw [wrapN _ hb,bits_or_u64_nat _ _ hb (by omega)]
 unfold packV
 rw [Nat.mul_comm,← Nat.two_pow_add_eq_or_of_lt hs]
theorem R9 (sl gn slot gen:Nat) (h1:sl+gn≤63) (hs:slot<2 ^ sl) (hg:gen<18446744073709551616) :
  IntKind.u64.wrap (IntKind.u64.wrap (bits BinOp.and IntKind.u64 (gen:Int) (maskI (gn:Int)) * IntKind.u64.wrap (maskI (sl:Int)+1))+(slot:Int))=((packV sl gn slot gen:Nat):Int):=by
 have hl:=Ga (gn:=gn) (gen:=gen) hs
 have h63:=pow63 (sl+gn) h1
 have h63':=pow63 sl (by omega)
 have h0:0<2 ^ sl:=Nat.pow_pos (by omega)
 rw [E6 gen gn hg (by omega),E5 sl (by omega)]
 have e1:IntKind.u64.wrap (((2 ^ sl - 1:Nat):Int)+1)=((2 ^ sl:Nat):Int):=by
  rw [show ((2 ^ sl - 1:Nat):Int)+1=((2 ^ sl:Nat):Int) from by omega,wrapN _ (by omega)]
 rw [e1,← Int.natCast_mul]
 have hb:gen % 2 ^ gn * 2 ^ sl<18446744073709551616:=by
  unfold packV at hl
  omega
 rw [wrapN _ hb,← Int.natCast_add,wrapN _ (by unfold packV at hl;omega)]
 rfl
theorem LF {sl gn slot gen:Nat} (hs:slot<2 ^ sl):packV sl gn slot gen % 2 ^ sl=slot:=by
 unfold packV
 rw [Nat.add_comm,Nat.add_mul_mod_self_right,Nat.mod_eq_of_lt hs]
theorem Nj {sl gn slot gen:Nat} (hs:slot<2 ^ sl):packV sl gn slot gen / 2 ^ sl=gen % 2 ^ gn:=by
 unfold packV
 rw [Nat.add_comm,Nat.add_mul_div_right _ _ (Nat.pow_pos (by omega)),Nat.div_eq_of_lt hs,Nat.zero_add]
def hideV (W h n:Nat):Nat:=(n ^^^ h) % 2 ^ W
theorem JF (W h:Nat) {n:Nat} (hn:n<2 ^ W):hideV W h (hideV W h n)=n:=by
 unfold hideV
 rw [Nat.xor_mod_two_pow,Nat.mod_mod,Nat.xor_mod_two_pow,Nat.xor_assoc,Nat.xor_self,Nat.xor_zero,Nat.mod_eq_of_lt hn]
theorem Gb (W h n:Nat):hideV W h n<2 ^ W:=Nat.mod_lt _ (Nat.pow_pos (by omega))
theorem PI (W h n:Nat) (hW:W≤64) (hh:h<18446744073709551616) (hn:n<18446744073709551616) :
  bits BinOp.and IntKind.u64 (bits BinOp.xor IntKind.u64 (n:Int) (h:Int)) (maskI (W:Int))=((hideV W h n:Nat):Int):=by
 rw [bits_xor_u64_nat n h hn hh,E6 _ W (Nat.xor_lt_two_pow (n:=64) hn hh) hW]
 rfl
end Go.Proofs.YteklkljndchjiaaGreat
