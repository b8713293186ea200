/- sip: rotations and rounds. sip: the program's round. sip: mix, take. cloakroomref12: Round. cloakroomref12: Mix. cloakroomref12: word. sip: New. sip: Write. sip: Sum, Hash. cloakroomref12: Hash. sip: words as sums. sip: the program's hash is the document's. sip: the last word; the program's hash is the document's. sip: a hash is a number of 64 bits. -/
import Derived.Test.YteklkljndchjiaaGreatJ8
import Derived.RegionTactic
import Derived.Deep.RegionHeld3
import Derived.Deep.QuietTactic
import Derived.BigQuiet
import Derived.StillTailTactics
import Derived.Lib.ConvBytes
namespace Go.Proofs.YteklkljndchjiaaGreat
open Go Go.RowKit Go.Deep
def addU (a b:Int):Int:=IntKind.u64.wrap (a+b)
def xorU (a b:Int):Int:=bits BinOp.xor IntKind.u64 a b
def rot13 (x:Int):Int:=bits BinOp.or IntKind.u64 (IntKind.u64.wrap (x * 8192)) (x / 2251799813685248)
theorem Pu (x:Int) (w:World):Calls Tryz.prog 310 #[.int .u64 x,.int .i64 13] w fun e w'=>e=.returned (.int .u64 (rot13 x))∧w=w':=by
 have hb:bits BinOp.and IntKind.u64 13 63=13:=by decide
 go_enter Tryz.func310,Tryz.ntmps310
 go_wp2
 go_ret
 exact ⟨rfl,rfl⟩
theorem Na (x:Int) (w:World):Calls Tryz.prog 293 #[.int .u64 x,.int .i64 13] w fun e w'=>e=.returned (.int .u64 (rot13 x))∧Below w.heap.size w w':=by
 go_enter Tryz.func293,Tryz.ntmps293
 go_wp2
 go_quiet (fail)
 go_wp2
 go_ret
 exact ⟨rfl,Al (Below.refl _ _) _⟩
def rot16 (x:Int):Int:=bits BinOp.or IntKind.u64 (IntKind.u64.wrap (x * 65536)) (x / 281474976710656)
theorem Pv (x:Int) (w:World):Calls Tryz.prog 310 #[.int .u64 x,.int .i64 16] w fun e w'=>e=.returned (.int .u64 (rot16 x))∧w=w':=by
 have hb:bits BinOp.and IntKind.u64 16 63=16:=by decide
 go_enter Tryz.func310,Tryz.ntmps310
 go_wp2
 go_ret
 exact ⟨rfl,rfl⟩
theorem Nb (x:Int) (w:World):Calls Tryz.prog 293 #[.int .u64 x,.int .i64 16] w fun e w'=>e=.returned (.int .u64 (rot16 x))∧Below w.heap.size w w':=by
 go_enter Tryz.func293,Tryz.ntmps293
 go_wp2
 go_quiet (fail)
 go_wp2
 go_ret
 exact ⟨rfl,Al (Below.refl _ _) _⟩
def rot17 (x:Int):Int:=bits BinOp.or IntKind.u64 (IntKind.u64.wrap (x * 131072)) (x / 140737488355328)
theorem Pw (x:Int) (w:World):Calls Tryz.prog 310 #[.int .u64 x,.int .i64 17] w fun e w'=>e=.returned (.int .u64 (rot17 x))∧w=w':=by
 have hb:bits BinOp.and IntKind.u64 17 63=17:=by decide
 go_enter Tryz.func310,Tryz.ntmps310
 go_wp2
 go_ret
 exact ⟨rfl,rfl⟩
theorem Nc (x:Int) (w:World):Calls Tryz.prog 293 #[.int .u64 x,.int .i64 17] w fun e w'=>e=.returned (.int .u64 (rot17 x))∧Below w.heap.size w w':=by
 go_enter Tryz.func293,Tryz.ntmps293
 go_wp2
 go_quiet (fail)
 go_wp2
 go_ret
 exact ⟨rfl,Al (Below.refl _ _) _⟩
def rot21 (x:Int):Int:=bits BinOp.or IntKind.u64 (IntKind.u64.wrap (x * 2097152)) (x / 8796093022208)
theorem Px (x:Int) (w:World):Calls Tryz.prog 310 #[.int .u64 x,.int .i64 21] w fun e w'=>e=.returned (.int .u64 (rot21 x))∧w=w':=by
 have hb:bits BinOp.and IntKind.u64 21 63=21:=by decide
 go_enter Tryz.func310,Tryz.ntmps310
 go_wp2
 go_ret
 exact ⟨rfl,rfl⟩
theorem Nf (x:Int) (w:World):Calls Tryz.prog 293 #[.int .u64 x,.int .i64 21] w fun e w'=>e=.returned (.int .u64 (rot21 x))∧Below w.heap.size w w':=by
 go_enter Tryz.func293,Tryz.ntmps293
 go_wp2
 go_quiet (fail)
 go_wp2
 go_ret
 exact ⟨rfl,Al (Below.refl _ _) _⟩
def rot32 (x:Int):Int:=bits BinOp.or IntKind.u64 (IntKind.u64.wrap (x * 4294967296)) (x / 4294967296)
theorem JC (x:Int) (w:World):Calls Tryz.prog 310 #[.int .u64 x,.int .i64 32] w fun e w'=>e=.returned (.int .u64 (rot32 x))∧w=w':=by
 have hb:bits BinOp.and IntKind.u64 32 63=32:=by decide
 go_enter Tryz.func310,Tryz.ntmps310
 go_wp2
 go_ret
 exact ⟨rfl,rfl⟩
theorem I1 (x:Int) (w:World):Calls Tryz.prog 293 #[.int .u64 x,.int .i64 32] w fun e w'=>e=.returned (.int .u64 (rot32 x))∧Below w.heap.size w w':=by
 go_enter Tryz.func293,Tryz.ntmps293
 go_wp2
 go_quiet (fail)
 go_wp2
 go_ret
 exact ⟨rfl,Al (Below.refl _ _) _⟩
structure Sip where
 a:Int
 b:Int
 c:Int
 d:Int
def BX (s:Sip):Sip :=
 let a:=addU s.a s.b
 let b:=xorU (rot13 s.b) a
 let a:=rot32 a
 let c:=addU s.c s.d
 let d:=xorU (rot16 s.d) c
 let a:=addU a d
 let d:=xorU (rot21 d) a
 let c:=addU c b
 let b:=xorU (rot17 b) c
 let c:=rot32 c
 ⟨a,b,c,d⟩
def sipF (f:Nat→Value) (o:Nat) (s:Sip):Nat→Value:=fun j=>if j=o then .int .u64 s.a else if j=o+1 then .int .u64 s.b else if j=o+2 then .int .u64 s.c else if j=o+3 then .int .u64 s.d else f j
theorem G7 {w:World} {g:Nat} {t:TypeId} {n o:Nat} {f:Nat→Value} {s:Sip} (h:w.rowIs g t n (sipF f o s)) (x:Int):(w.setCell ⟨g,o,none⟩ (.int .u64 x)).rowIs g t n (sipF f o ⟨x,s.b,s.c,s.d⟩) :=
 (h.set (o) _).congr fun j _=>by
  unfold sipF
  repeat' split
  all_goals (first | rfl | omega)
theorem Lx {w:World} {g:Nat} {t:TypeId} {n o:Nat} {f:Nat→Value} {s:Sip} (h:w.rowIs g t n (sipF f o s)) (x:Int):(w.setCell ⟨g,o+1,none⟩ (.int .u64 x)).rowIs g t n (sipF f o ⟨s.a,x,s.c,s.d⟩) :=
 (h.set (o+1) _).congr fun j _=>by
  unfold sipF
  repeat' split
  all_goals (first | rfl | omega)
theorem G8 {w:World} {g:Nat} {t:TypeId} {n o:Nat} {f:Nat→Value} {s:Sip} (h:w.rowIs g t n (sipF f o s)) (x:Int):(w.setCell ⟨g,o+2,none⟩ (.int .u64 x)).rowIs g t n (sipF f o ⟨s.a,s.b,x,s.d⟩) :=
 (h.set (o+2) _).congr fun j _=>by
  unfold sipF
  repeat' split
  all_goals (first | rfl | omega)
theorem I2 {w:World} {g:Nat} {t:TypeId} {n o:Nat} {f:Nat→Value} {s:Sip} (h:w.rowIs g t n (sipF f o s)) (x:Int):(w.setCell ⟨g,o+3,none⟩ (.int .u64 x)).rowIs g t n (sipF f o ⟨s.a,s.b,s.c,x⟩) :=
 (h.set (o+3) _).congr fun j _=>by
  unfold sipF
  repeat' split
  all_goals (first | rfl | omega)
set_option maxRecDepth 100000 in
set_option maxHeartbeats 4000000 in
theorem Kh (g o:Nat) (t:TypeId) (n:Nat) (f:Nat→Value) (s:Sip) (w:World) (h0:w.rowIs g t n (sipF f o s)) (hn:o+3<n) :
  Calls Tryz.prog 294 #[.pointer (some ⟨g,o,none⟩)] w fun e w'=>e=.returned (.tuple #[])∧w'.rowIs g t n (sipF f o (BX s))∧Chg (·=g) w w':=by
 obtain ⟨a0,b0,c0,d0⟩:=s
 have hc0:=Chg.refl (·=g) w
 go_enter Tryz.func294,Tryz.ntmps294
 have r1:=h0.cell (i:=o) (by omega)
 have q1:=h0.frozen (o)
 have r2:=h0.cell (i:=o+1) (by omega)
 simp [sipF] at r1 r2
 go_wp2_with fail
 go_region
 clear r1 q1 r2
 generalize hy1:IntKind.u64.wrap (a0+b0)=a1 at *
 replace hy1:=Lib.hid hy1
 have h1:=(G7 h0 a1).drew
 have hc1:Chg (·=g) w ((w.setCell ⟨g,o,none⟩ (.int .u64 a1)).drew):=(hc0.setCell (p:=⟨g,o,none⟩) (fun _=>rfl) _).drew
 generalize (w.setCell ⟨g,o,none⟩ (.int .u64 a1)).drew=w1 at *
 clear h0 hc0
 have r1:=h1.cell (i:=o+1) (by omega)
 have q1:=h1.frozen (o+1)
 have r2:=h1.cell (i:=o) (by omega)
 simp [sipF] at r1 r2
 go_wp2_with fail
 refine wp_region_still_tail 13 (by kernel_rfl) (by kernel_rfl) ?_
 simp only [List.take_succ_cons,List.take_zero,List.drop_succ_cons,List.drop_zero]
 repeat still_step
 still_call ((Pu b0 _).mono (fun _ _ h=>⟨h.1,h.2.symm⟩))
 repeat still_step
 refine wpStill_nil ?_
 change wpList _ _ _ _ _ w1.drew
 have h1':w1.drew.rowIs g t n _:=h1.drew
 have r1':w1.drew.cell? _=_:=r1
 have q1':w1.drew.frozen? _=_:=q1
 have hc1':Chg (·=g) w w1.drew:=hc1.drew
 generalize w1.drew=v2 at *
 clear h1 r1 q1 hc1 r2
 go_wp2_with fail
 clear r1' q1'
 generalize hy2:bits BinOp.xor IntKind.u64 (rot13 b0) a1=b2 at *
 replace hy2:=Lib.hid hy2
 have h2:=(Lx h1' b2)
 have hc2:Chg (·=g) w ((v2.setCell ⟨g,o+1,none⟩ (.int .u64 b2))):=(hc1'.setCell (p:=⟨g,o+1,none⟩) (fun _=>rfl) _)
 generalize (v2.setCell ⟨g,o+1,none⟩ (.int .u64 b2))=w2 at *
 clear h1' hc1'
 have r1:=h2.cell (i:=o) (by omega)
 have q1:=h2.frozen (o)
 simp [sipF] at r1
 go_wp2_with fail
 refine wp_region_still_tail 8 (by kernel_rfl) (by kernel_rfl) ?_
 simp only [List.take_succ_cons,List.take_zero,List.drop_succ_cons,List.drop_zero]
 repeat still_step
 still_call ((JC a1 _).mono (fun _ _ h=>⟨h.1,h.2.symm⟩))
 repeat still_step
 refine wpStill_nil ?_
 change wpList _ _ _ _ _ w2.drew
 have h2':w2.drew.rowIs g t n _:=h2.drew
 have r1':w2.drew.cell? _=_:=r1
 have q1':w2.drew.frozen? _=_:=q1
 have hc2':Chg (·=g) w w2.drew:=hc2.drew
 generalize w2.drew=v3 at *
 clear h2 r1 q1 hc2
 go_wp2_with fail
 clear r1' q1'
 generalize hy3:rot32 a1=a3 at *
 replace hy3:=Lib.hid hy3
 have h3:=(G7 h2' a3)
 have hc3:Chg (·=g) w ((v3.setCell ⟨g,o,none⟩ (.int .u64 a3))):=(hc2'.setCell (p:=⟨g,o,none⟩) (fun _=>rfl) _)
 generalize (v3.setCell ⟨g,o,none⟩ (.int .u64 a3))=w3 at *
 clear h2' hc2'
 have r1:=h3.cell (i:=o+2) (by omega)
 have q1:=h3.frozen (o+2)
 have r2:=h3.cell (i:=o+3) (by omega)
 simp [sipF] at r1 r2
 go_wp2_with fail
 go_region
 clear r1 q1 r2
 generalize hy4:IntKind.u64.wrap (c0+d0)=c4 at *
 replace hy4:=Lib.hid hy4
 have h4:=(G8 h3 c4).drew
 have hc4:Chg (·=g) w ((w3.setCell ⟨g,o+2,none⟩ (.int .u64 c4)).drew):=(hc3.setCell (p:=⟨g,o+2,none⟩) (fun _=>rfl) _).drew
 generalize (w3.setCell ⟨g,o+2,none⟩ (.int .u64 c4)).drew=w4 at *
 clear h3 hc3
 have r1:=h4.cell (i:=o+3) (by omega)
 have q1:=h4.frozen (o+3)
 have r2:=h4.cell (i:=o+2) (by omega)
 simp [sipF] at r1 r2
 go_wp2_with fail
 refine wp_region_still_tail 13 (by kernel_rfl) (by kernel_rfl) ?_
 simp only [List.take_succ_cons,List.take_zero,List.drop_succ_cons,List.drop_zero]
 repeat still_step
 still_call ((Pv d0 _).mono (fun _ _ h=>⟨h.1,h.2.symm⟩))
 repeat still_step
 refine wpStill_nil ?_
 change wpList _ _ _ _ _ w4.drew
 have h4':w4.drew.rowIs g t n _:=h4.drew
 have r1':w4.drew.cell? _=_:=r1
 have q1':w4.drew.frozen? _=_:=q1
 have hc4':Chg (·=g) w w4.drew:=hc4.drew
 generalize w4.drew=v5 at *
 clear h4 r1 q1 hc4 r2
 go_wp2_with fail
 clear r1' q1'
 generalize hy5:bits BinOp.xor IntKind.u64 (rot16 d0) c4=d5 at *
 replace hy5:=Lib.hid hy5
 have h5:=(I2 h4' d5)
 have hc5:Chg (·=g) w ((v5.setCell ⟨g,o+3,none⟩ (.int .u64 d5))):=(hc4'.setCell (p:=⟨g,o+3,none⟩) (fun _=>rfl) _)
 generalize (v5.setCell ⟨g,o+3,none⟩ (.int .u64 d5))=w5 at *
 clear h4' hc4'
 have r1:=h5.cell (i:=o) (by omega)
 have q1:=h5.frozen (o)
 have r2:=h5.cell (i:=o+3) (by omega)
 simp [sipF] at r1 r2
 go_wp2_with fail
 go_region
 clear r1 q1 r2
 generalize hy6:IntKind.u64.wrap (a3+d5)=a6 at *
 replace hy6:=Lib.hid hy6
 have h6:=(G7 h5 a6).drew
 have hc6:Chg (·=g) w ((w5.setCell ⟨g,o,none⟩ (.int .u64 a6)).drew):=(hc5.setCell (p:=⟨g,o,none⟩) (fun _=>rfl) _).drew
 generalize (w5.setCell ⟨g,o,none⟩ (.int .u64 a6)).drew=w6 at *
 clear h5 hc5
 have r1:=h6.cell (i:=o+3) (by omega)
 have q1:=h6.frozen (o+3)
 have r2:=h6.cell (i:=o) (by omega)
 simp [sipF] at r1 r2
 go_wp2_with fail
 refine wp_region_still_tail 13 (by kernel_rfl) (by kernel_rfl) ?_
 simp only [List.take_succ_cons,List.take_zero,List.drop_succ_cons,List.drop_zero]
 repeat still_step
 still_call ((Px d5 _).mono (fun _ _ h=>⟨h.1,h.2.symm⟩))
 repeat still_step
 refine wpStill_nil ?_
 change wpList _ _ _ _ _ w6.drew
 have h6':w6.drew.rowIs g t n _:=h6.drew
 have r1':w6.drew.cell? _=_:=r1
 have q1':w6.drew.frozen? _=_:=q1
 have hc6':Chg (·=g) w w6.drew:=hc6.drew
 generalize w6.drew=v7 at *
 clear h6 r1 q1 hc6 r2
 go_wp2_with fail
 clear r1' q1'
 generalize hy7:bits BinOp.xor IntKind.u64 (rot21 d5) a6=d7 at *
 replace hy7:=Lib.hid hy7
 have h7:=(I2 h6' d7)
 have hc7:Chg (·=g) w ((v7.setCell ⟨g,o+3,none⟩ (.int .u64 d7))):=(hc6'.setCell (p:=⟨g,o+3,none⟩) (fun _=>rfl) _)
 generalize (v7.setCell ⟨g,o+3,none⟩ (.int .u64 d7))=w7 at *
 clear h6' hc6'
 have r1:=h7.cell (i:=o+2) (by omega)
 have q1:=h7.frozen (o+2)
 have r2:=h7.cell (i:=o+1) (by omega)
 simp [sipF] at r1 r2
 go_wp2_with fail
 go_region
 clear r1 q1 r2
 generalize hy8:IntKind.u64.wrap (c4+b2)=c8 at *
 replace hy8:=Lib.hid hy8
 have h8:=(G8 h7 c8).drew
 have hc8:Chg (·=g) w ((w7.setCell ⟨g,o+2,none⟩ (.int .u64 c8)).drew):=(hc7.setCell (p:=⟨g,o+2,none⟩) (fun _=>rfl) _).drew
 generalize (w7.setCell ⟨g,o+2,none⟩ (.int .u64 c8)).drew=w8 at *
 clear h7 hc7
 have r1:=h8.cell (i:=o+1) (by omega)
 have q1:=h8.frozen (o+1)
 have r2:=h8.cell (i:=o+2) (by omega)
 simp [sipF] at r1 r2
 go_wp2_with fail
 refine wp_region_still_tail 13 (by kernel_rfl) (by kernel_rfl) ?_
 simp only [List.take_succ_cons,List.take_zero,List.drop_succ_cons,List.drop_zero]
 repeat still_step
 still_call ((Pw b2 _).mono (fun _ _ h=>⟨h.1,h.2.symm⟩))
 repeat still_step
 refine wpStill_nil ?_
 change wpList _ _ _ _ _ w8.drew
 have h8':w8.drew.rowIs g t n _:=h8.drew
 have r1':w8.drew.cell? _=_:=r1
 have q1':w8.drew.frozen? _=_:=q1
 have hc8':Chg (·=g) w w8.drew:=hc8.drew
 generalize w8.drew=v9 at *
 clear h8 r1 q1 hc8 r2
 go_wp2_with fail
 clear r1' q1'
 generalize hy9:bits BinOp.xor IntKind.u64 (rot17 b2) c8=b9 at *
 replace hy9:=Lib.hid hy9
 have h9:=(Lx h8' b9)
 have hc9:Chg (·=g) w ((v9.setCell ⟨g,o+1,none⟩ (.int .u64 b9))):=(hc8'.setCell (p:=⟨g,o+1,none⟩) (fun _=>rfl) _)
 generalize (v9.setCell ⟨g,o+1,none⟩ (.int .u64 b9))=w9 at *
 clear h8' hc8'
 have r1:=h9.cell (i:=o+2) (by omega)
 have q1:=h9.frozen (o+2)
 simp [sipF] at r1
 go_wp2_with fail
 refine wp_region_still_tail 8 (by kernel_rfl) (by kernel_rfl) ?_
 simp only [List.take_succ_cons,List.take_zero,List.drop_succ_cons,List.drop_zero]
 repeat still_step
 still_call ((JC c8 _).mono (fun _ _ h=>⟨h.1,h.2.symm⟩))
 repeat still_step
 refine wpStill_nil ?_
 change wpList _ _ _ _ _ w9.drew
 have h9':w9.drew.rowIs g t n _:=h9.drew
 have r1':w9.drew.cell? _=_:=r1
 have q1':w9.drew.frozen? _=_:=q1
 have hc9':Chg (·=g) w w9.drew:=hc9.drew
 generalize w9.drew=v10 at *
 clear h9 r1 q1 hc9
 go_wp2_with fail
 clear r1' q1'
 generalize hy10:rot32 c8=c10 at *
 replace hy10:=Lib.hid hy10
 have h10:=(G8 h9' c10)
 have hc10:Chg (·=g) w ((v10.setCell ⟨g,o+2,none⟩ (.int .u64 c10))):=(hc9'.setCell (p:=⟨g,o+2,none⟩) (fun _=>rfl) _)
 generalize (v10.setCell ⟨g,o+2,none⟩ (.int .u64 c10))=w10 at *
 clear h9' hc9'
 go_end0
 obtain rfl:=hy10.out
 obtain rfl:=hy9.out
 obtain rfl:=hy8.out
 obtain rfl:=hy7.out
 obtain rfl:=hy6.out
 obtain rfl:=hy5.out
 obtain rfl:=hy4.out
 obtain rfl:=hy3.out
 obtain rfl:=hy2.out
 obtain rfl:=hy1.out
 exact ⟨rfl,h10,hc10⟩
def siter:Nat→Sip→Sip
 | 0,s=>s
 | k+1,s=>BX (siter k s)
def stake (s:Sip) (m:Int):Sip :=
 let t:=siter 2 ⟨s.a,s.b,s.c,xorU s.d m⟩
 ⟨xorU t.a m,t.b,t.c,t.d⟩
set_option maxHeartbeats 1000000 in
theorem OB (g o:Nat) (t:TypeId) (n:Nat) (f:Nat→Value) (s:Sip) (k:Nat) (w:World) (h:w.rowIs g t n (sipF f o s)) (hn:o+3<n) (hk:k≤64) (hk0:0<k) :
  Calls Tryz.prog 269 #[.pointer (some ⟨g,o,none⟩),.int .i64 k] w fun e w'=>e=.returned (.tuple #[])∧w'.rowIs g t n (sipF f o (siter k s))∧Chg (·=g) w w':=by
 go_enter Tryz.func269,Tryz.ntmps269
 go_wp2_with fail
 go_loopw [7] (fun i wr=>∃ j:Nat,j≤k∧i=.int .i64 j∧wr.rowIs g t n (sipF f o (siter j s))∧Chg (·=g) w wr) (fun i _=>k - (intOf i).toNat)
 case atStart=>exact ⟨0,by omega,rfl,h,Chg.refl _ _⟩
 case round =>
  obtain ⟨j,hj,rfl,hr,hc⟩:=hrel
  clear h
  by_cases hlt:j<k
  ·
   have hlti:(j:Int)<(k:Int):=by omega
   go_wp2_with (go_at_call 294;refine (Kh g o t n f (siter j s) _ hr hn).mono ?_;rintro e w1 ⟨rfl,hr1,hc1⟩)
   go_roundw
   case rel=>exact ⟨j+1,by omega,by go_num,hr1,hc.trans hc1 (fun _ _ h=>h)⟩
   case measure=>simp [intOf];omega
  ·
   obtain rfl:j=k:=by omega
   have hlti:¬ (j:Int)<(j:Int):=by omega
   go_wp2_with fail
   go_end0
   exact ⟨rfl,hr,hc⟩
set_option maxHeartbeats 1000000 in
theorem Ly (g o:Nat) (t:TypeId) (n:Nat) (f:Nat→Value) (s:Sip) (m:Int) (w:World) (h:w.rowIs g t n (sipF f o s)) (hn:o+3<n) :
  Calls Tryz.prog 268 #[.pointer (some ⟨g,o,none⟩),.int .u64 m] w fun e w'=>e=.returned (.tuple #[])∧w'.rowIs g t n (sipF f o (stake s m))∧Chg (·=g) w w':=by
 obtain ⟨a0,b0,c0,d0⟩:=s
 have r1:=h.cell (i:=o+3) (by omega)
 have q1:=h.frozen (o+3)
 simp [sipF] at r1
 go_enter Tryz.func268,Tryz.ntmps268
 go_wp2_with fail
 go_region
 clear r1 q1
 obtain ⟨y,hy⟩:∃ y,bits BinOp.xor IntKind.u64 d0 m=y:=⟨_,rfl⟩
 rw [hy]
 have h1:=(I2 h y).drew
 have hc1:Chg (·=g) w (w.setCell ⟨g,o+3,none⟩ (.int .u64 y)).drew:=((Chg.refl (·=g) w).setCell (p:=⟨g,o+3,none⟩) (fun _=>rfl) _).drew
 generalize (w.setCell ⟨g,o+3,none⟩ (.int .u64 y)).drew=w1 at *
 obtain ⟨s1,hs1⟩:∃ s1,siter 2 ⟨a0,b0,c0,y⟩=s1:=⟨_,rfl⟩
 have M:=OB g o t n f ⟨a0,b0,c0,y⟩ 2 w1 h1 hn (by omega) (by omega)
 rw [hs1] at M
 have hT:stake ⟨a0,b0,c0,d0⟩ m=⟨xorU s1.a m,s1.b,s1.c,s1.d⟩:=by
  rw [← hs1,← hy];rfl
 replace hT:=Lib.hid hT
 clear h1 hs1 hy h
 go_wp2_with fail
 refine M.mono ?_
 rintro e w2 ⟨rfl,h2,hc2⟩
 have hc:=hc1.trans hc2 (fun _ _ h=>h)
 clear M hc1 hc2
 have r1:=h2.cell (i:=o) (by omega)
 have q1:=h2.frozen o
 simp [sipF] at r1
 go_wp2_with fail
 go_region
 go_wp2_with fail
 go_end0
 rw [hT.out]
 exact ⟨rfl,(G7 h2 _).drew,(hc.setCell (p:=⟨g,o,none⟩) (fun _=>rfl) _).drew⟩
set_option maxRecDepth 100000 in
set_option maxHeartbeats 2000000 in
theorem I3 (s:Sip) (w:World):Calls Tryz.prog 264 #[.int .u64 s.a,.int .u64 s.b,.int .u64 s.c,.int .u64 s.d] w fun e w'=>e=.returned (.tuple #[.int .u64 (BX s).a,.int .u64 (BX s).b,.int .u64 (BX s).c,.int .u64 (BX s).d])∧Below w.heap.size w w':=by
 obtain ⟨a,b,c,d⟩:=s
 have hb0:=Below.refl w.heap.size w
 go_enter Tryz.func264,Tryz.ntmps264
 go_wp2_with fail
 refine (Na _ _).mono ?_
 rintro e w1 ⟨rfl,hb⟩
 have hb1:=Bo hb0 hb0.size hb
 clear hb
 go_wp2_with fail
 refine (I1 _ _).mono ?_
 rintro e w2 ⟨rfl,hb⟩
 have hb2:=Bo hb1 hb1.size hb
 clear hb
 go_wp2_with fail
 refine (Nb _ _).mono ?_
 rintro e w3 ⟨rfl,hb⟩
 have hb3:=Bo hb2 hb2.size hb
 clear hb
 go_wp2_with fail
 refine (Nf _ _).mono ?_
 rintro e w4 ⟨rfl,hb⟩
 have hb4:=Bo hb3 hb3.size hb
 clear hb
 go_wp2_with fail
 refine (Nc _ _).mono ?_
 rintro e w5 ⟨rfl,hb⟩
 have hb5:=Bo hb4 hb4.size hb
 clear hb
 go_wp2_with fail
 refine (I1 _ _).mono ?_
 rintro e w6 ⟨rfl,hb⟩
 have hb6:=Bo hb5 hb5.size hb
 clear hb
 go_wp2_with fail
 refine bodyPost_ret (v:=.tuple #[.int .u64 (BX ⟨a,b,c,d⟩).a,.int .u64 (BX ⟨a,b,c,d⟩).b,.int .u64 (BX ⟨a,b,c,d⟩).c,.int .u64 (BX ⟨a,b,c,d⟩).d]) (by simp [results,Tryz.results264,go_sem,BX,addU,xorU]) rfl ⟨rfl,hb6⟩
set_option maxRecDepth 100000 in
set_option maxHeartbeats 2000000 in
theorem refmix (s:Sip) (k:Nat) (w:World) (hk:k≤64):Calls Tryz.prog 265 #[.int .u64 s.a,.int .u64 s.b,.int .u64 s.c,.int .u64 s.d,.int .i64 k] w fun e w'=>e=.returned (.agg #[.int .u64 (siter k s).a,.int .u64 (siter k s).b,.int .u64 (siter k s).c,.int .u64 (siter k s).d])∧Below w.heap.size w w':=by
 have hB0:=Blk.new w 314 #[.int .u64 0,.int .u64 0,.int .u64 0,.int .u64 0]
 have hb0:Below w.heap.size w (w.alloc (.cells #[.int .u64 0,.int .u64 0,.int .u64 0,.int .u64 0] 314)):=(Below.refl _ _).alloc (Nat.le_refl _) _
 go_enter Tryz.func265,Tryz.ntmps265
 go_wp2_with fail
 go_loopw [0,1,2,3,11] (fun a b c d i wr=>∃ j:Nat,j≤k∧i=.int .i64 j∧a=.int .u64 (siter j s).a∧b=.int .u64 (siter j s).b∧c=.int .u64 (siter j s).c∧d=.int .u64 (siter j s).d∧Blk wr w.heap.size 314 #[.int .u64 0,.int .u64 0,.int .u64 0,.int .u64 0]∧Below w.heap.size w wr) (fun _ _ _ _ i _=>k - (intOf i).toNat)
 case atStart=>exact ⟨0,by omega,rfl,rfl,rfl,rfl,rfl,hB0,hb0⟩
 case round =>
  obtain ⟨j,hj,rfl,rfl,rfl,rfl,rfl,hB,hb⟩:=hrel
  clear hB0 hb0
  by_cases hlt:j<k
  ·
   have hlti:(j:Int)<(k:Int):=by omega
   have h64:(j:Int)<64:=by omega
   have R:=I3 (siter j s) wr
   have hS:siter (j+1) s=BX (siter j s):=rfl
   obtain ⟨t,ht⟩:∃ t,siter j s=t:=⟨_,rfl⟩
   rw [ht] at R hS ⊢
   obtain ⟨u,hu⟩:∃ u,BX t=u:=⟨_,rfl⟩
   rw [hu] at R hS
   replace hS:=Lib.hid hS
   clear hu ht
   go_wp2_with (go_at_call 264;refine R.mono ?_;rintro e w1 ⟨rfl,hb1⟩)
   go_roundw
   case rel =>
    exact ⟨j+1,by omega,by go_num,by rw [hS.out],by rw [hS.out],by rw [hS.out],by rw [hS.out],hB.below hb1 hB.lt,Bo hb hb.size hb1⟩
   case measure=>simp [intOf];omega
  ·
   have hlti:¬ (j:Int)<(k:Int):=by omega
   obtain rfl:j=k:=by omega
   obtain ⟨t,ht⟩:∃ t,siter j s=t:=⟨_,rfl⟩
   rw [ht]
   replace ht:=Lib.hid ht
   have c0:=hB.cell 0
   have c1:=hB.cell 1
   have c2:=hB.cell 2
   have c3:=hB.cell 3
   have q0:=hB.frozen 0
   have q1:=hB.frozen 1
   have q2:=hB.frozen 2
   have q3:=hB.frozen 3
   simp at c0 c1 c2 c3
   go_wp2_with fail
   have hB4:=(((hB.set_ 0 (.int .u64 t.a)).set_ 1 (.int .u64 t.b)).set_ 2 (.int .u64 t.c)).set_ 3 (.int .u64 t.d)
   have hb4:Below w.heap.size w ((((wr.setCell ⟨w.heap.size,0,none⟩ (.int .u64 t.a)).setCell ⟨w.heap.size,1,none⟩ (.int .u64 t.b)).setCell ⟨w.heap.size,2,none⟩ (.int .u64 t.c)).setCell ⟨w.heap.size,3,none⟩ (.int .u64 t.d)):=(((hb.setCell (Nat.le_refl _) _).setCell (Nat.le_refl _) _).setCell (Nat.le_refl _) _).setCell (Nat.le_refl _) _
   generalize ((((wr.setCell ⟨w.heap.size,0,none⟩ (.int .u64 t.a)).setCell ⟨w.heap.size,1,none⟩ (.int .u64 t.b)).setCell ⟨w.heap.size,2,none⟩ (.int .u64 t.c)).setCell ⟨w.heap.size,3,none⟩ (.int .u64 t.d))=w9 at *
   have d0:=hB4.cell 0
   have d1:=hB4.cell 1
   have d2:=hB4.cell 2
   have d3:=hB4.cell 3
   simp at d0 d1 d2 d3
   rw [ht.out]
   refine bodyPost_ret (v:=.agg #[.int .u64 t.a,.int .u64 t.b,.int .u64 t.c,.int .u64 t.d]) (by simp [results,Tryz.results265,go_sem,d0,d1,d2,d3]) rfl ⟨rfl,hb4⟩
def wordL:List UInt8→Int
 | []=>0
 | c :: l=>addU (IntKind.u64.wrap (wordL l * 256)) (IntKind.u64.wrap (c.toNat:Int))
set_option maxHeartbeats 1000000 in
theorem OC (x:ByteArray) (w:World) (hx:x.size≤1000000):Calls Tryz.prog 263 #[.string x] w fun e w'=>e=.returned (.int .u64 (wordL x.data.toList))∧w=w':=by
 go_enter Tryz.func263,Tryz.ntmps263
 go_wp2_with fail
 go_loop [3,4] (fun m i=>∃ j:Nat,j≤x.size∧i=.int .i64 ((j:Int) - 1)∧m=.int .u64 (wordL (x.data.toList.drop j))) (fun _ i=>(intOf i+1).toNat)
 case atStart =>
  have:x.data.toList.drop x.size=[]:=List.drop_of_length_le (by rw [Array.length_toList];exact Nat.le_refl _)
  exact ⟨x.size,by omega,by go_num,by rw [this];rfl⟩
 case round =>
  obtain ⟨j,hj,rfl,rfl⟩:=hrel
  rcases Nat.eq_zero_or_pos j with rfl | hpos
  ·
   go_wp2_with fail
   go_ret
   exact ⟨rfl,rfl⟩
  ·
   obtain ⟨i,rfl⟩:∃ i,j=i+1:=⟨j - 1,by omega⟩
   have hge:(0:Int)≤((i+1:Nat):Int) - 1:=by omega
   have hlt:i<x.data.toList.length:=by rw [Array.length_toList];exact hj
   have hd:wordL (x.data.toList.drop i)=addU (IntKind.u64.wrap (wordL (x.data.toList.drop (i+1)) * 256)) (IntKind.u64.wrap ((x.data.toList[i]).toNat:Int)):=by
    rw [List.drop_eq_getElem_cons hlt];rfl
   obtain ⟨m,hm⟩:∃ m,wordL (x.data.toList.drop (i+1))=m:=⟨_,rfl⟩
   rw [hm] at hd ⊢
   replace hd:=Lib.hid hd
   clear hm
   go_wp2_with fail
   go_round
   case rel=>exact ⟨i,by omega,rfl,by rw [hd.out];rfl⟩
   case measure=>simp [intOf]
def Bu (s:Sip) (last count:Int):Nat→Value:=sipF (fun j=>if j=0 then .bool true else if j=5 then .int .u64 last else .int .i64 count) 1 s
def sip0 (a b:Int):Sip:=⟨xorU 8317987319222330741 a,xorU 7237128888997146477 b,xorU 7816392313619706465 a,xorU 8387220255154660723 b⟩
theorem OD (a b:Int) (w:World):Calls Tryz.prog 224 #[.agg #[.int .u64 a,.int .u64 b]] w fun e w'=>∃ g,e=.returned (.pointer (some ⟨g,0,none⟩))∧w'.rowIs g 318 7 (Bu (sip0 a b) 0 0)∧Below w.heap.size w w'∧w.heap.size≤g:=by
 go_enter Tryz.func224,Tryz.ntmps224
 go_wp2
 go_ret
 have hN:=Blk.new (w.alloc (.cells #[.int .u64 a,.int .u64 b] 26)) 318 #[.bool true,.int .u64 (xorU 8317987319222330741 a),.int .u64 (xorU 7237128888997146477 b),.int .u64 (xorU 7816392313619706465 a),.int .u64 (xorU 8387220255154660723 b),.int .u64 0,.int .i64 0]
 rw [World.size_alloc] at hN
 refine ⟨_,rfl,⟨_,hN,rfl,fun i hi=>?_⟩,bw,by simp⟩
 have hi':i=0∨i=1∨i=2∨i=3∨i=4∨i=5∨i=6:=by omega
 rcases hi' with rfl | rfl | rfl | rfl | rfl | rfl | rfl <;> rfl
theorem I4 (w:World) (e:TypeId) (s:ByteArray):Chg (fun _=>False) w (Lib.bytesWorld w e s) :=
 ⟨rfl,rfl,rfl,by rw [Lib.bytesWorld_size];omega,fun b hb _=>Lib.bytesWorld_at_old w e s b hb⟩
def lastS (r:Nat) (L:Int) (c:Nat):Int:=bits BinOp.or IntKind.u64 L (IntKind.u64.wrap (IntKind.u64.wrap (c:Int) * 2 ^ (8 * r)))
def hbyte (k:Nat) (st:Sip × Int) (c:Nat):Sip × Int:=if (k+1) % 8=0 then (stake st.1 (lastS (k % 8) st.2 c),0) else (st.1,lastS (k % 8) st.2 c)
def Ng (x:ByteArray) (k:Nat):Nat:=(x.data.toList.getD k 0).toNat
def hrun (x:ByteArray) (s:Sip):Nat→Sip × Int
 | 0=>(s,0)
 | k+1=>hbyte k (hrun x s k) (Ng x k)
theorem Ha {w:World} {g:Nat} {t:TypeId} {S:Sip} {L C:Int} (h:w.rowIs g t 7 (Bu S L C)) (x:Int):(w.setCell ⟨g,5,none⟩ (.int .u64 x)).rowIs g t 7 (Bu S x C) :=
 (h.set 5 _).congr fun j hj=>by
  have hj':j=0∨j=1∨j=2∨j=3∨j=4∨j=5∨j=6:=by omega
  rcases hj' with rfl | rfl | rfl | rfl | rfl | rfl | rfl <;> rfl
theorem Lz {w:World} {g:Nat} {t:TypeId} {S:Sip} {L C:Int} (h:w.rowIs g t 7 (Bu S L C)) (x:Int):(w.setCell ⟨g,6,none⟩ (.int .i64 x)).rowIs g t 7 (Bu S L x) :=
 (h.set 6 _).congr fun j hj=>by
  have hj':j=0∨j=1∨j=2∨j=3∨j=4∨j=5∨j=6:=by omega
  rcases hj' with rfl | rfl | rfl | rfl | rfl | rfl | rfl <;> rfl
set_option maxRecDepth 100000 in
set_option maxHeartbeats 4000000 in
theorem JD (g:Nat) (s:Sip) (x:ByteArray) (w:World) (h:w.rowIs g 318 7 (Bu s 0 0)) (hx:x.size≤1000000) :
  Calls Tryz.prog 225 #[.pointer (some ⟨g,0,none⟩),.string x] w fun e w'=>e=.returned (.tuple #[])∧w'.rowIs g 318 7 (Bu (hrun x s x.size).1 (hrun x s x.size).2 x.size)∧Chg (·=g) w w':=by
 have r0:=h.cell (i:=0) (by omega)
 have cv:=Lib.run_convert_string_bytes (P:=Tryz.prog) w 9 319 5 x Tryz.underlying9 Tryz.underlying319 Tryz.underlying5
 have hcW:=I4 w 5 x
 have hcell:=Lib.bytesWorld_cell w 5 x
 have hsz:=Lib.bytesWorld_size w 5 x
 have hlt:=h.lt
 have hW:=C6 h hcW (fun h=>h)
 generalize Lib.bytesWorld w 5 x=W at *
 simp [Bu,sipF] at r0
 go_enter Tryz.func225,Tryz.ntmps225
 go_wp2_with fail
 clear cv r0 h
 go_loopw [18] (fun i wr=>∃ (k:Nat) (S:Sip) (L:Int),k≤x.size∧i=.int .i64 k∧hrun x s k=(S,L)∧wr.rowIs g 318 7 (Bu S L k)∧Chg (·=g) W wr) (fun i _=>x.size - (intOf i).toNat)
 case atStart=>exact ⟨0,_,_,by omega,rfl,rfl,hW,Chg.refl _ _⟩
 case round =>
  obtain ⟨k,S,L,hk,rfl,hS,hr,hc⟩:=hrel
  by_cases hlt2:k<x.size
  ·
   have hlti:(k:Int)<(x.size:Int):=by omega
   have b0:=(Af hc (a:=⟨w.heap.size,k,none⟩) (show w.heap.size<W.heap.size by omega) (show w.heap.size≠g by omega)).trans (hcell k hlt2)
   obtain ⟨c,hcd⟩:∃ c,(x.data.toList.getD k 0).toNat=c:=⟨_,rfl⟩
   rw [hcd] at b0
   have r5:=hr.cell (i:=5) (by omega)
   have r6:=hr.cell (i:=6) (by omega)
   have q5:=hr.frozen 5
   simp [Bu,sipF] at r5 r6
   obtain ⟨r,hr8⟩:∃ r,k % 8=r:=⟨_,rfl⟩
   have hr7:r<8:=by omega
   have tm:Int.tmod (k:Int) 8=(r:Int):=by rw [← hr8];simp [Int.tmod]
   have hR:hrun x s (k+1)=hbyte k (S,L) c:=by rw [← hcd,← hS];rfl
   unfold hbyte at hR
   simp only [hr8] at hR
   replace hR:=Lib.hid hR
   replace hr8:=Lib.hid hr8
   replace hS:=Lib.hid hS
   replace hcd:=Lib.hid hcd
   clear hcell hW
   go_wp2_with fail
   go_region
   clear r5 r6 q5 tm b0
   obtain ⟨L',hL'⟩:∃ L',lastS r L c=L':=⟨_,rfl⟩
   rw [hL'] at hR
   have hL2:bits BinOp.or IntKind.u64 L (IntKind.u64.wrap (IntKind.u64.wrap (c:Int) * 2 ^ (8 * r)))=L':=hL'
   rw [hL2]
   have hr1:=(Ha hr L').drew
   have hc1:Chg (·=g) W (wr.setCell ⟨g,5,none⟩ (.int .u64 L')).drew:=(hc.setCell (p:=⟨g,5,none⟩) (fun _=>rfl) _).drew
   generalize (wr.setCell ⟨g,5,none⟩ (.int .u64 L')).drew=w1 at *
   clear hL' hL2 hr hc
   have r6:=hr1.cell (i:=6) (by omega)
   have q6:=hr1.frozen 6
   simp [Bu,sipF] at r6
   have hr2:=Lz hr1 ((k:Int)+1)
   have hc2:Chg (·=g) W (w1.setCell ⟨g,6,none⟩ (.int .i64 ((k:Int)+1))):=hc1.setCell (p:=⟨g,6,none⟩) (fun _=>rfl) _
   by_cases h8:(k+1) % 8=0
   ·
    have tm:Int.tmod ((k:Int)+1) 8=0:=by rw [show ((k:Int)+1)=((k+1:Nat):Int) by omega];simp [Int.tmod];omega
    rw [if_pos h8] at hR
    replace h8:=Lib.hid h8
    replace hR:=Lib.hid hR.out
    clear hr1 hc1
    go_wp2_with fail
    clear r6 q6 tm
    generalize (w1.setCell ⟨g,6,none⟩ (.int .i64 ((k:Int)+1)))=w2 at *
    have r5:=hr2.cell (i:=5) (by omega)
    simp [Bu,sipF] at r5
    refine wp_region_still_tail 7 (by kernel_rfl) (by kernel_rfl) ?_
    simp only [List.take_succ_cons,List.take_zero,List.drop_succ_cons,List.drop_zero]
    repeat still_step
    refine wpStill_nil ?_
    change wpList _ _ _ _ _ w2.drew
    have hr3:w2.drew.rowIs g 318 7 (Bu S L' ((k:Int)+1)):=hr2.drew
    have hc3:Chg (·=g) W w2.drew:=hc2.drew
    generalize w2.drew=w3 at *
    clear hr2 hc2 r5
    go_wp2_with (go_at_call 268;refine (Ly g 1 _ 7 _ S L' _ hr3 (by omega)).mono ?_;rintro e w4 ⟨rfl,hr4,hc4⟩;have hr5:w4.rowIs g 318 7 (Bu (stake S L') L' ((k:Int)+1)):=hr4;have r5:=hr5.cell (i:=5) (by omega);have q5:=hr5.frozen 5;simp [Bu,sipF] at r5)
    go_roundw
    case rel =>
     exact ⟨k+1,_,_,by omega,by go_num,hR.out,by simpa using Ha hr5 0,(hc3.trans hc4 (fun _ _ h=>h)).setCell (p:=⟨g,5,none⟩) (fun _=>rfl) _⟩
    case measure=>simp [intOf];omega
   ·
    have tm:Int.tmod ((k:Int)+1) 8=(((k+1) % 8:Nat):Int):=by rw [show ((k:Int)+1)=((k+1:Nat):Int) by omega];simp [Int.tmod]
    have tz:((((k+1) % 8:Nat):Int)==0)=false:=by simp;omega
    generalize hm:(k+1) % 8=m8 at *
    rw [if_neg h8] at hR
    replace h8:=Lib.hid h8
    replace hm:=Lib.hid hm
    replace hR:=Lib.hid hR
    clear hr1 hc1
    go_wp2_with fail
    go_roundw
    case rel=>exact ⟨k+1,_,_,by omega,by go_num,hR.out,by simpa using hr2,hc2⟩
    case measure=>simp [intOf];omega
  ·
   have hlti:¬ (k:Int)<(x.size:Int):=by omega
   obtain rfl:k=x.size:=by omega
   replace hS:=Lib.hid hS
   go_wp2_with fail
   go_end0
   rw [hS.out]
   exact ⟨rfl,hr,(hcW.mono (fun _ _ h=>h.elim)).trans hc (fun _ _ h=>h)⟩
def EW (L C:Int):Int:=bits BinOp.or IntKind.u64 L (IntKind.u64.wrap (IntKind.u64.wrap C * 72057594037927936))
def Fy (t:Sip):Int :=
 let u:=siter 4 ⟨t.a,t.b,xorU t.c 255,t.d⟩
 xorU (xorU (xorU u.a u.b) u.c) u.d
theorem Py (w:World) (t:TypeId) (a b c d:Int):(w.alloc (.cells #[.int .u64 a,.int .u64 b,.int .u64 c,.int .u64 d] t)).rowIs w.heap.size t 4 (sipF (fun _=>undef) 0 ⟨a,b,c,d⟩) :=
 ⟨_,Blk.new w t _,rfl,fun i hi=>by
  have hi':i=0∨i=1∨i=2∨i=3:=by omega
  rcases hi' with rfl | rfl | rfl | rfl <;> rfl⟩
set_option maxRecDepth 100000 in
set_option maxHeartbeats 4000000 in
theorem OE (g:Nat) (S:Sip) (L:Int) (C:Nat) (w:World) (h:w.rowIs g 318 7 (Bu S L C)) :
  Calls Tryz.prog 226 #[.pointer (some ⟨g,0,none⟩)] w fun e w'=>e=.returned (.int .u64 (Fy (stake S (EW L C))))∧Below w.heap.size w w':=by
 obtain ⟨a,b,c,d⟩:=S
 have r0:=h.cell (i:=0) (by omega)
 have r1:=h.cell (i:=1) (by omega)
 have r2:=h.cell (i:=2) (by omega)
 have r3:=h.cell (i:=3) (by omega)
 have r4:=h.cell (i:=4) (by omega)
 simp [Bu,sipF] at r0 r1 r2 r3 r4
 have hlt:=h.lt
 have hA:=Py w 316 a b c d
 have hh:=h.alloc (.cells #[.int .u64 a,.int .u64 b,.int .u64 c,.int .u64 d] 316)
 have hb:Below w.heap.size w (w.alloc (.cells #[.int .u64 a,.int .u64 b,.int .u64 c,.int .u64 d] 316)):=(Below.refl _ _).alloc (Nat.le_refl _) _
 go_enter Tryz.func226,Tryz.ntmps226
 go_wp2_with fail
 clear r0 r1 r2 r3 r4 h
 generalize (w.alloc (.cells #[.int .u64 a,.int .u64 b,.int .u64 c,.int .u64 d] 316))=w1 at *
 have r5:=hh.cell (i:=5) (by omega)
 have r6:=hh.cell (i:=6) (by omega)
 simp [Bu,sipF] at r5 r6
 refine wp_region_still_tail 11 (by kernel_rfl) (by kernel_rfl) ?_
 simp only [List.take_succ_cons,List.take_zero,List.drop_succ_cons,List.drop_zero]
 repeat still_step
 refine wpStill_nil ?_
 change wpList _ _ _ _ _ w1.drew
 have hA1:w1.drew.rowIs w.heap.size 316 4 (sipF (fun _=>undef) 0 ⟨a,b,c,d⟩):=hA.drew
 have hb1:Below w.heap.size w w1.drew:=⟨hb.os,hb.tape,hb.output,hb.size,hb.block⟩
 generalize w1.drew=w2 at *
 clear hA hb hh r5 r6
 obtain ⟨m,hm⟩:∃ m,bits BinOp.or IntKind.u64 L (IntKind.u64.wrap (IntKind.u64.wrap (C:Int) * 72057594037927936))=m:=⟨_,rfl⟩
 rw [hm]
 have hm':EW L C=m:=hm
 clear hm
 have T:=Ly w.heap.size 0 316 4 (fun _=>undef) ⟨a,b,c,d⟩ m w2 hA1 (by omega)
 obtain ⟨t,ht⟩:∃ t,stake ⟨a,b,c,d⟩ m=t:=⟨_,rfl⟩
 rw [ht] at T
 obtain ⟨ta,tb,tc,td⟩:=t
 replace ht:=Lib.hid ht
 replace hm':=Lib.hid hm'
 replace T:=Lib.hid T
 clear hA1
 go_wp2_with (go_at_call 268;refine T.out.mono ?_;rintro e w3 ⟨rfl,h3,hc3⟩;have r2:=h3.cell (i:=2) (by omega);have q2:=h3.frozen 2;simp [sipF] at r2)
 have hb3:Below w.heap.size w w3:=Ar hb1 hc3 (fun b h e=>by omega) hb1.size
 obtain ⟨y,hy⟩:∃ y,bits BinOp.xor IntKind.u64 tc 255=y:=⟨_,rfl⟩
 rw [hy]
 have h4:(w3.setCell ⟨w.heap.size,2,none⟩ (.int .u64 y)).rowIs w.heap.size 316 4 (sipF (fun _=>undef) 0 ⟨ta,tb,y,td⟩):=G8 h3 y
 have hb4:Below w.heap.size w (w3.setCell ⟨w.heap.size,2,none⟩ (.int .u64 y)):=hb3.setCell (Nat.le_refl _) _
 generalize (w3.setCell ⟨w.heap.size,2,none⟩ (.int .u64 y))=w4 at *
 obtain ⟨u,hu⟩:∃ u,siter 4 ⟨ta,tb,y,td⟩=u:=⟨_,rfl⟩
 have M:=OB w.heap.size 0 316 4 (fun _=>undef) ⟨ta,tb,y,td⟩ 4 w4 h4 (by omega) (by omega) (by omega)
 rw [hu] at M
 obtain ⟨ua,ub,uc,ud⟩:=u
 have hE:Fy ⟨ta,tb,tc,td⟩=xorU (xorU (xorU ua ub) uc) ud:=by
  show xorU (xorU (xorU (siter 4 ⟨ta,tb,bits BinOp.xor IntKind.u64 tc 255,td⟩).a (siter 4 ⟨ta,tb,bits BinOp.xor IntKind.u64 tc 255,td⟩).b) (siter 4 ⟨ta,tb,bits BinOp.xor IntKind.u64 tc 255,td⟩).c) (siter 4 ⟨ta,tb,bits BinOp.xor IntKind.u64 tc 255,td⟩).d=_
  rw [hy,hu]
 replace hE:=Lib.hid hE
 clear hu hy h3 hc3 hb1 hb3 r2 q2 T h4
 go_wp2_with fail
 refine M.mono ?_
 rintro e w5 ⟨rfl,h5,hc5⟩
 have hb5:Below w.heap.size w w5:=Ar hb4 hc5 (fun b h e=>by omega) hb4.size
 have r0:=h5.cell (i:=0) (by omega)
 have r1:=h5.cell (i:=1) (by omega)
 have r2:=h5.cell (i:=2) (by omega)
 have r3:=h5.cell (i:=3) (by omega)
 simp [sipF] at r0 r1 r2 r3
 clear M hc5 hb4
 go_wp2_with fail
 go_ret
 rw [hm'.out,ht.out,hE.out]
 exact ⟨rfl,hb5⟩
def C8 (a b:Int) (x:ByteArray):Int:=Fy (stake (hrun x (sip0 a b) x.size).1 (EW (hrun x (sip0 a b) x.size).2 x.size))
theorem QW (a b:Int) (x:ByteArray) (w:World) (hx:x.size≤1000000):Calls Tryz.prog 211 #[.agg #[.int .u64 a,.int .u64 b],.string x] w fun e w'=>e=.returned (.int .u64 (C8 a b x))∧Below w.heap.size w w':=by
 obtain ⟨R,hR⟩:∃ R,hrun x (sip0 a b) x.size=R:=⟨_,rfl⟩
 unfold C8
 rw [hR]
 obtain ⟨S,L⟩:=R
 replace hR:=Lib.hid hR
 go_enter Tryz.func211,Tryz.ntmps211
 go_wp2_with fail
 refine (OD a b _).mono ?_
 rintro e w1 ⟨g,rfl,h1,hb1,hg1⟩
 have hz:w.heap.size<g:=by simp at hg1;omega
 have hb:Below w.heap.size w w1:=bw
 go_wp2_with fail
 refine (JD g (sip0 a b) x w1 h1 hx).mono ?_
 rintro e w2 ⟨rfl,h2,hc2⟩
 rw [hR.out] at h2
 have hb2:=Ar hb hc2 (fun b h e=>by omega) hb.size
 go_wp2_with fail
 refine (OE g S L x.size w2 h2).mono ?_
 rintro e w3 ⟨rfl,hb3⟩
 have hb4:=Bo hb2 hb2.size hb3
 go_wp2_with fail
 go_ret
 exact ⟨rfl,hb4⟩
def lastW (x:ByteArray):Int:=IntKind.u64.wrap (wordL (x.extract (8 * (x.size / 8)) x.size).data.toList+(x.size:Int) % 256 * 72057594037927936)
def mw (x:ByteArray) (k:Nat):Int:=if k=x.size / 8 then lastW x else wordL (x.extract (8 * k) (8 * k+8)).data.toList
def bs (x:ByteArray) (S:Sip):Nat→Sip
 | 0=>S
 | k+1=>stake (bs x S k) (mw x k)
set_option maxRecDepth 100000 in
set_option maxHeartbeats 4000000 in
theorem Sl (a b:Int) (x:ByteArray) (w:World) (hx:x.size≤1000000):Calls Tryz.prog 219 #[.agg #[.int .u64 a,.int .u64 b],.string x] w fun e w'=>e=.returned (.int .u64 (Fy (bs x (sip0 a b) (x.size / 8+1))))∧Below w.heap.size w w':=by
 have hb0:Below w.heap.size w (w.alloc (.cells #[.int .u64 a,.int .u64 b] 26)):=(Below.refl _ _).alloc (Nat.le_refl _) _
 go_enter Tryz.func219,Tryz.ntmps219
 go_wp2_with fail
 go_quiet (fail)
 go_wp2_with fail
 go_quiet (fail)
 go_wp2_with fail
 go_loopw [5,6,7,8,10] (fun sa sb sc sd i wr=>∃ (k:Nat) (S:Sip),k≤x.size / 8+1∧i=.int .i64 (8 * (k:Int))∧S=bs x (sip0 a b) k∧sa=.int .u64 S.a∧sb=.int .u64 S.b∧sc=.int .u64 S.c∧sd=.int .u64 S.d∧Below w.heap.size w wr) (fun _ _ _ _ i _=>x.size+9 - (intOf i).toNat)
 case atStart=>exact ⟨0,_,by omega,rfl,rfl,rfl,rfl,rfl,rfl,Al hb0 _⟩
 case round =>
  obtain ⟨k,S,hk,rfl,hS,rfl,rfl,rfl,rfl,hb⟩:=hrel
  clear hb0
  have hsucc:bs x (sip0 a b) (k+1)=stake S (mw x k):=by rw [hS];rfl
  replace hS:=Lib.hid hS
  by_cases hlt:k<x.size / 8
  ·
   have h2:8 * (k:Int)+8≤(x.size:Int):=by omega
   have h3:8 * (k:Int)≤(x.size:Int) / 8 * 8:=by omega
   have h4:(8 * (k:Int)==(x.size:Int) / 8 * 8)=false:=by simp;omega
   have hm:mw x k=wordL (x.extract (8 * k) (8 * k+8)).data.toList:=by unfold mw;rw [if_neg (by omega)]
   obtain ⟨m,hme⟩:∃ m,wordL (x.extract (8 * k) (8 * k+8)).data.toList=m:=⟨_,rfl⟩
   have Wd:=OC (x.extract (8 * k) (8 * k+8)) wr (by rw [ByteArray.size_extract];omega)
   rw [hme] at Wd hm
   rw [hm] at hsucc
   obtain ⟨a0,b0,c0,d0⟩:=S
   replace hsucc:=Lib.hid hsucc
   clear hme hm
   go_wp2_with (go_at_call 263;refine Wd.mono ?_;rintro e w' ⟨rfl,rfl⟩)
   obtain ⟨y,hy⟩:∃ y,bits BinOp.xor IntKind.u64 d0 m=y:=⟨_,rfl⟩
   rw [hy]
   obtain ⟨T0,hT0⟩:∃ T:Sip,T=⟨a0,b0,c0,y⟩:=⟨_,rfl⟩
   have hst:stake ⟨a0,b0,c0,d0⟩ m=⟨xorU (siter 2 T0).a m,(siter 2 T0).b,(siter 2 T0).c,(siter 2 T0).d⟩:=by rw [hT0,← hy];rfl
   have hstep:=hsucc.out
   rw [hst] at hstep
   replace hstep:=Lib.hid hstep
   clear hst hsucc hy
   go_loopw [5,6,7,8,12] (fun sa sb sc sd i wr=>∃ (j:Nat),j≤2∧i=.int .i64 (j:Int)∧sa=.int .u64 (siter j T0).a∧sb=.int .u64 (siter j T0).b∧sc=.int .u64 (siter j T0).c∧sd=.int .u64 (siter j T0).d∧Below w.heap.size w wr) (fun _ _ _ _ i _=>2 - (intOf i).toNat)
   case atStart=>exact ⟨0,by omega,rfl,by rw [hT0];rfl,by rw [hT0];rfl,by rw [hT0];rfl,by rw [hT0];rfl,hb⟩
   case round =>
    clear hb
    obtain ⟨j,hj,rfl,rfl,rfl,rfl,rfl,hb⟩:=hrel
    have hS2:siter (j+1) T0=BX (siter j T0):=rfl
    have R:=I3 (siter j T0) wr
    by_cases hlj:j<2
    ·
     have hlji:(j:Int)<2:=by omega
     obtain ⟨t,ht⟩:∃ t,siter j T0=t:=⟨_,rfl⟩
     rw [ht] at R hS2 ⊢
     obtain ⟨u,hu⟩:∃ u,BX t=u:=⟨_,rfl⟩
     rw [hu] at R hS2
     replace hS2:=Lib.hid hS2
     replace hT0:=Lib.hid hT0
     clear hu ht
     go_wp2_with (go_at_call 264;refine R.mono ?_;rintro e w1 ⟨rfl,hb1⟩)
     go_roundw
     case rel=>exact ⟨j+1,by omega,by go_num,by rw [hS2.out],by rw [hS2.out],by rw [hS2.out],by rw [hS2.out],Bo hb hb.size hb1⟩
     case measure=>simp [intOf];omega
    ·
     obtain rfl:j=2:=by omega
     have hlji:¬ (((2:Nat):Int)<2):=by omega
     obtain ⟨t,ht⟩:∃ t,siter 2 T0=t:=⟨_,rfl⟩
     have hst2:=hstep.out
     rw [ht] at hst2 ⊢
     replace hst2:=Lib.hid hst2
     replace hT0:=Lib.hid hT0
     clear R hS2 hstep ht
     go_wp2_with fail
     go_roundw
     case rel=>exact ⟨k+1,_,by omega,by go_num,hst2.out.symm,rfl,rfl,rfl,rfl,hb⟩
     case measure=>simp [intOf];omega
  ·
   by_cases hq:k=x.size / 8
   ·
    have h3:8 * (k:Int)≤(x.size:Int) / 8 * 8:=by omega
    have h4:(8 * (k:Int)==(x.size:Int) / 8 * 8)=true:=by simp;omega
    have h5:¬ 8 * (k:Int)+8≤(x.size:Int):=by omega
    have h6:(x.size:Int)<8 * (k:Int)+8:=by omega
    have h7:8 * (k:Int)≤(x.size:Int):=by omega
    have tm:Int.tmod (x.size:Int) 256=((x.size % 256:Nat):Int):=by simp [Int.tmod]
    have hm:mw x k=lastW x:=by unfold mw;rw [if_pos hq]
    unfold lastW at hm
    rw [← hq] at hm
    obtain ⟨wl,hwl⟩:∃ m,wordL (x.extract (8 * k) x.size).data.toList=m:=⟨_,rfl⟩
    have Wd:=OC (x.extract (8 * k) x.size) wr (by rw [ByteArray.size_extract];omega)
    rw [hwl] at Wd hm
    rw [hm] at hsucc
    obtain ⟨a0,b0,c0,d0⟩:=S
    replace hsucc:=Lib.hid hsucc
    replace hq:=Lib.hid hq
    clear hwl hm hlt
    go_wp2_with (go_at_call 263;refine Wd.mono ?_;rintro e w' ⟨rfl,rfl⟩)
    obtain ⟨m,hme⟩:∃ m,IntKind.u64.wrap (wl+(x.size:Int) % 256 * 72057594037927936)=m:=⟨_,rfl⟩
    have hsucc2:=hsucc.out
    rw [hme] at hsucc2 ⊢
    have hsucc:=Lib.hid hsucc2
    clear hsucc2 hme
    obtain ⟨y,hy⟩:∃ y,bits BinOp.xor IntKind.u64 d0 m=y:=⟨_,rfl⟩
    rw [hy]
    obtain ⟨T0,hT0⟩:∃ T:Sip,T=⟨a0,b0,c0,y⟩:=⟨_,rfl⟩
    have hst:stake ⟨a0,b0,c0,d0⟩ m=⟨xorU (siter 2 T0).a m,(siter 2 T0).b,(siter 2 T0).c,(siter 2 T0).d⟩:=by rw [hT0,← hy];rfl
    have hstep:=hsucc.out
    rw [hst] at hstep
    replace hstep:=Lib.hid hstep
    clear hst hsucc hy
    go_loopw [5,6,7,8,12] (fun sa sb sc sd i wr=>∃ (j:Nat),j≤2∧i=.int .i64 (j:Int)∧sa=.int .u64 (siter j T0).a∧sb=.int .u64 (siter j T0).b∧sc=.int .u64 (siter j T0).c∧sd=.int .u64 (siter j T0).d∧Below w.heap.size w wr) (fun _ _ _ _ i _=>2 - (intOf i).toNat)
    case atStart=>exact ⟨0,by omega,rfl,by rw [hT0];rfl,by rw [hT0];rfl,by rw [hT0];rfl,by rw [hT0];rfl,hb⟩
    case round =>
     clear hb
     obtain ⟨j,hj,rfl,rfl,rfl,rfl,rfl,hb⟩:=hrel
     have hS2:siter (j+1) T0=BX (siter j T0):=rfl
     have R:=I3 (siter j T0) wr
     by_cases hlj:j<2
     ·
      have hlji:(j:Int)<2:=by omega
      obtain ⟨t,ht⟩:∃ t,siter j T0=t:=⟨_,rfl⟩
      rw [ht] at R hS2 ⊢
      obtain ⟨u,hu⟩:∃ u,BX t=u:=⟨_,rfl⟩
      rw [hu] at R hS2
      replace hS2:=Lib.hid hS2
      replace hT0:=Lib.hid hT0
      clear hu ht
      go_wp2_with (go_at_call 264;refine R.mono ?_;rintro e w1 ⟨rfl,hb1⟩)
      go_roundw
      case rel=>exact ⟨j+1,by omega,by go_num,by rw [hS2.out],by rw [hS2.out],by rw [hS2.out],by rw [hS2.out],Bo hb hb.size hb1⟩
      case measure=>simp [intOf];omega
     ·
      obtain rfl:j=2:=by omega
      have hlji:¬ (((2:Nat):Int)<2):=by omega
      obtain ⟨t,ht⟩:∃ t,siter 2 T0=t:=⟨_,rfl⟩
      have hst2:=hstep.out
      rw [ht] at hst2 ⊢
      replace hst2:=Lib.hid hst2
      replace hT0:=Lib.hid hT0
      clear R hS2 hstep ht
      go_wp2_with fail
      go_roundw
      case rel=>exact ⟨k+1,_,by omega,by go_num,hst2.out.symm,rfl,rfl,rfl,rfl,hb⟩
      case measure=>simp [intOf];omega
   ·
    obtain rfl:k=x.size / 8+1:=by omega
    have h3:¬ 8 * ((x.size / 8+1:Nat):Int)≤(x.size:Int) / 8 * 8:=by omega
    obtain ⟨ta,tb,tc,td⟩:=S
    clear hsucc
    obtain ⟨y,hy⟩:∃ y,bits BinOp.xor IntKind.u64 tc 255=y:=⟨_,rfl⟩
    obtain ⟨u,hu⟩:∃ u,siter 4 ⟨ta,tb,y,td⟩=u:=⟨_,rfl⟩
    have M:=fun W=>refmix ⟨ta,tb,y,td⟩ 4 W (by omega)
    rw [hu] at M
    obtain ⟨ua,ub,uc,ud⟩:=u
    have hE:Fy ⟨ta,tb,tc,td⟩=xorU (xorU (xorU ua ub) uc) ud:=by
     show xorU (xorU (xorU (siter 4 ⟨ta,tb,bits BinOp.xor IntKind.u64 tc 255,td⟩).a (siter 4 ⟨ta,tb,bits BinOp.xor IntKind.u64 tc 255,td⟩).b) (siter 4 ⟨ta,tb,bits BinOp.xor IntKind.u64 tc 255,td⟩).c) (siter 4 ⟨ta,tb,bits BinOp.xor IntKind.u64 tc 255,td⟩).d=_
     rw [hy,hu]
    replace hE:=Lib.hid hE
    replace M:=Lib.hid M
    replace hu:=Lib.hid hu
    go_wp2_with fail
    refine (M.out _).mono ?_
    rintro e w1 ⟨rfl,hb1⟩
    have hb2:=Bo hb hb.size hb1
    have hb3:Below w.heap.size w (w1.alloc (.cells #[.int .u64 ua,.int .u64 ub,.int .u64 uc,.int .u64 ud] 314)):=hb2.alloc hb2.size _
    go_wp2_with fail
    go_ret
    rw [← hS.out,hE.out]
    exact ⟨rfl,hb3⟩
theorem BI (n:Nat) (h:n<18446744073709551616):IntKind.u64.wrap (n:Int)=n:=by
 simp [IntKind.wrap,IntKind.bits,IntKind.signed]
 omega
theorem QX (a c m:Nat) (ha:a<2 ^ m) (hc:c * 2 ^ m<18446744073709551616) (hm:2 ^ m≤18446744073709551616):bits BinOp.or IntKind.u64 (a:Int) ((c * 2 ^ m:Nat):Int)=((a+c * 2 ^ m:Nat):Int):=by
 have h1:a ||| c * 2 ^ m=a+c * 2 ^ m:=by
  have:=Nat.two_pow_add_eq_or_of_lt ha c
  rw [Nat.or_comm,Nat.mul_comm c,← this,Nat.add_comm]
 unfold bits
 have h2:a+c * 2 ^ m<18446744073709551616:=by
  rw [← h1]
  have:a<2 ^ 64:=by omega
  exact Nat.or_lt_two_pow (n:=64) this hc
 have e1:(BitVec.ofInt 64 (a:Int)).toNat=a:=by rw [BitVec.toNat_ofInt];omega
 have e2:(BitVec.ofInt 64 ((c * 2 ^ m:Nat):Int)).toNat=c * 2 ^ m:=by rw [BitVec.toNat_ofInt];omega
 show IntKind.u64.wrap ((BitVec.ofInt 64 (a:Int) ||| BitVec.ofInt 64 ((c * 2 ^ m:Nat):Int)).toNat:Int)=_
 rw [BitVec.toNat_or,e1,e2,h1]
 exact BI _ h2
def wn:List UInt8→Nat
 | []=>0
 | c :: l=>wn l * 256+c.toNat
theorem wn_lt:∀ l:List UInt8,wn l<256 ^ l.length
 | []=>by simp [wn]
 | c :: l=>by
  have:=wn_lt l
  have hc:c.toNat<256:=c.toNat_lt
  rw [wn,List.length_cons,Nat.pow_succ]
  omega
theorem Ki:∀ (l:List UInt8) (c:UInt8),wn (l ++ [c])=wn l+c.toNat * 256 ^ l.length
 | [],c=>by simp [wn]
 | d :: l,c=>by
  rw [List.cons_append,wn,Ki l c,wn,List.length_cons,Nat.pow_succ,← Nat.mul_assoc,Nat.add_mul]
  omega
theorem I5:∀ l:List UInt8,l.length≤8→wordL l=(wn l:Int)
 | [],_=>rfl
 | c :: l,h=>by
  simp only [List.length_cons] at h
  have h1:=I5 l (by omega)
  have h2:=wn_lt (c :: l)
  have h5:(c :: l).length≤8:=by simp only [List.length_cons];omega
  have h6:256 ^ (c :: l).length≤256 ^ 8:=Nat.pow_le_pow_right (by decide) h5
  have h7:(256:Nat) ^ 8=18446744073709551616:=by decide
  have h3:256 ^ (c :: l).length≤18446744073709551616:=by rw [← h7];exact h6
  have h2':wn l * 256+c.toNat<256 ^ (c :: l).length:=h2
  have h4:wn l * 256+c.toNat<18446744073709551616:=Nat.lt_of_lt_of_le h2' h3
  clear h2 h3 h2' h5 h6 h7
  have hc:c.toNat<256:=c.toNat_lt
  have e3:(wn l:Int) * 256=((wn l * 256:Nat):Int):=by simp
  have e4:=BI c.toNat (Nat.lt_trans hc (by decide))
  have e5:=BI (wn l * 256) (Nat.lt_of_le_of_lt (Nat.le_add_right _ _) h4)
  have e6:=BI (wn l * 256+c.toNat) h4
  show IntKind.u64.wrap (IntKind.u64.wrap (wordL l * 256)+IntKind.u64.wrap (c.toNat:Int))=((wn l * 256+c.toNat:Nat):Int)
  rw [h1,e3,e4,e5]
  exact e6
def tailB (x:ByteArray) (k:Nat):List UInt8:=(x.data.toList.drop (8 * (k / 8))).take (k % 8)
theorem QY (l:List UInt8) (c:UInt8) (h:l.length<8):lastS l.length (wn l:Int) c.toNat=(wn (l ++ [c]):Int):=by
 have hc:c.toNat<256:=c.toNat_lt
 have hl:=wn_lt l
 have hp:256 ^ l.length=2 ^ (8 * l.length):=by rw [Nat.pow_mul]
 rw [hp] at hl
 have h2:=wn_lt (l ++ [c])
 have h6:256 ^ (l ++ [c]).length≤256 ^ 8:=Nat.pow_le_pow_right (by decide) (by rw [List.length_append];exact h)
 have h7:(256:Nat) ^ 8=18446744073709551616:=by decide
 rw [h7] at h6
 have h8:wn (l ++ [c])<18446744073709551616:=Nat.lt_of_lt_of_le h2 h6
 rw [Ki,hp] at h8
 have h9:c.toNat * 2 ^ (8 * l.length)<18446744073709551616:=Nat.lt_of_le_of_lt (Nat.le_add_left _ _) h8
 have h10:2 ^ (8 * l.length)≤18446744073709551616:=by
  have:256 ^ l.length≤256 ^ 8:=Nat.pow_le_pow_right (by decide) (by omega)
  rw [h7,hp] at this
  exact this
 have e1:=BI c.toNat (Nat.lt_trans hc (by decide))
 have e2:=BI (c.toNat * 2 ^ (8 * l.length)) h9
 unfold lastS
 rw [e1,show (c.toNat:Int) * 2 ^ (8 * l.length)=((c.toNat * 2 ^ (8 * l.length):Nat):Int) by simp,e2,QX _ _ _ hl h9 h10,Ki,hp]
theorem LA (x:ByteArray) (k:Nat) (h:k≤x.size):(tailB x k).length=k % 8:=by
 unfold tailB
 have:x.data.toList.length=x.size:=Array.length_toList
 rw [List.length_take,List.length_drop,this]
 omega
theorem Pz (x:ByteArray) (k:Nat) (h:k<x.size):(x.data.toList.drop (8 * (k / 8))).take (k % 8+1)=tailB x k ++ [x.data.toList.getD k 0]:=by
 have hl:x.data.toList.length=x.size:=Array.length_toList
 unfold tailB
 rw [List.take_add_one,List.getElem?_drop,show 8 * (k / 8)+k % 8=k by omega,List.getElem?_eq_getElem (by omega),List.getD_eq_getElem?_getD,List.getElem?_eq_getElem (by omega)]
 rfl
theorem G9 (x:ByteArray) (a b:Nat):(x.extract a b).data.toList=(x.data.toList.drop a).take (b - a):=by
 simp [ByteArray.data_extract]
theorem OG (x:ByteArray) (s:Sip):∀ k,k≤x.size→hrun x s k=(bs x s (k / 8),(wn (tailB x k):Int))
 | 0,_=>rfl
 | k+1,hk=>by
  have ih:=OG x s k (by omega)
  have hlen:=LA x k (by omega)
  have hsn:=Pz x k (by omega)
  have hw:=QY (tailB x k) (x.data.toList.getD k 0) (by omega)
  rw [hlen] at hw
  show hbyte k (hrun x s k) (Ng x k)=_
  rw [ih]
  unfold hbyte Ng
  simp only [hw]
  by_cases h8:(k+1) % 8=0
  ·
   rw [if_pos h8,show (k+1) / 8=k / 8+1 by omega]
   have h7:k % 8+1=8:=by omega
   rw [h7] at hsn
   have hm:mw x (k / 8)=(wn (tailB x k ++ [x.data.toList.getD k 0]):Int):=by
    unfold mw
    rw [if_neg (by omega),G9,show 8 * (k / 8)+8 - 8 * (k / 8)=8 by omega,hsn]
    exact I5 _ (by rw [List.length_append,hlen];simp;omega)
   have ht:tailB x (k+1)=[]:=by unfold tailB;rw [h8];rfl
   rw [ht,bs,hm]
   rfl
  ·
   rw [if_neg h8,show (k+1) / 8=k / 8 by omega]
   have ht:tailB x (k+1)=tailB x k ++ [x.data.toList.getD k 0]:=by
    rw [← hsn];unfold tailB;rw [show (k+1) / 8=k / 8 by omega,show (k+1) % 8=k % 8+1 by omega]
   rw [ht]
theorem QZ (x:ByteArray) (hx:x.size≤1000000):EW (wn (tailB x x.size):Int) x.size=lastW x:=by
 have hlen:=LA x x.size (Nat.le_refl _)
 have hl:=wn_lt (tailB x x.size)
 have h7:256 ^ (tailB x x.size).length≤256 ^ 7:=Nat.pow_le_pow_right (by decide) (by omega)
 have h56:(256:Nat) ^ 7=2 ^ 56:=by decide
 rw [h56] at h7
 have hl2:wn (tailB x x.size)<2 ^ 56:=Nat.lt_of_lt_of_le hl h7
 have hr:x.size % 256 * 2 ^ 56<18446744073709551616:=by omega
 have ho:=QX (wn (tailB x x.size)) (x.size % 256) 56 hl2 hr (by decide)
 have ht:(x.extract (8 * (x.size / 8)) x.size).data.toList=tailB x x.size:=by
  rw [G9];unfold tailB;rw [show x.size - 8 * (x.size / 8)=x.size % 8 by omega]
 have hw:=I5 (tailB x x.size) (by omega)
 unfold lastW EW
 rw [ht,hw]
 have e1:=BI x.size (by omega)
 have e2:IntKind.u64.wrap ((x.size:Int) * 72057594037927936)=((x.size % 256 * 2 ^ 56:Nat):Int):=by
  simp [IntKind.wrap,IntKind.bits,IntKind.signed]
  omega
 rw [e1,e2,ho,show (wn (tailB x x.size):Int)+(x.size:Int) % 256 * 72057594037927936=((wn (tailB x x.size)+x.size % 256 * 2 ^ 56:Nat):Int) by omega]
 exact (BI _ (by omega)).symm
theorem Hb (a b:Int) (x:ByteArray) (w:World) (hx:x.size≤1000000):Calls Tryz.prog 219 #[.agg #[.int .u64 a,.int .u64 b],.string x] w fun e w'=>e=.returned (.int .u64 (C8 a b x))∧Below w.heap.size w w':=by
 have h:C8 a b x=Fy (bs x (sip0 a b) (x.size / 8+1)):=by
  unfold C8
  rw [OG x _ x.size (Nat.le_refl _),QZ x hx,bs,mw,if_pos rfl]
 rw [h]
 exact Sl a b x w hx
theorem Hv (a b:Int) (x:ByteArray):∃ h:Nat,C8 a b x=(h:Int)∧h<18446744073709551616:=by
 have key:∀ u v:Int,∃ h:Nat,xorU u v=(h:Int)∧h<18446744073709551616:=by
  intro u v
  have hw:∀ n:Int,∃ h:Nat,IntKind.u64.wrap n=(h:Int)∧h<18446744073709551616:=fun n=>⟨(n % 18446744073709551616).toNat,by simp [IntKind.wrap,IntKind.bits,IntKind.signed];omega,by omega⟩
  exact hw _
 exact key _ _
end Go.Proofs.YteklkljndchjiaaGreat
