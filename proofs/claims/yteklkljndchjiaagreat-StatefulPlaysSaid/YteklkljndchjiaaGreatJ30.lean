/- table: New. -/
import Derived.Test.YteklkljndchjiaaGreatJ29
import Derived.Test.YteklkljndchjiaaGreatJ13
import Derived.Deep.RegionWith
namespace Go.Proofs.YteklkljndchjiaaGreat
open Go Go.RowKit Go.Deep Go.Maps Go.ChangeMaps
theorem Iu (w:World) (n:Nat):Slots (w.alloc (.cells (madeCells slt0.cells.toArray (n * 15)) 203)) w.heap.size n (fun _=>slt0):=by
 refine ⟨_,Blk.new w _ _,size_madeCells _ _,fun i hi j hj=>?_⟩
 have hlt:i * 15+j<n * 15:=by omega
 unfold madeCells
 rw [Array.getElem?_map,Array.getElem?_range,if_pos hlt]
 have hz:slt0.cells.toArray.size=15:=rfl
 have hm:(i * 15+j) % 15=j:=by omega
 simp only [Option.map_some,hz,hm]
 rw [List.getElem?_eq_getElem (by simpa using hj)]
 congr 1
 rw [getElem!_pos _ _ (by simpa using hj)]
 rfl
theorem Q9:(Tryz.prog.info? 203).map (fun i=>(i.zero,i.size,i.bytes))=some (some (.agg slt0.cells.toArray),15,120):=by kernel_rfl
theorem OY {w:World} {sb fs wg n:Nat} {E:Nat→Slt} {L:List Int} {M:LM} {G now:Int} {F Y:Nat→Prop} (a1 a2 a3 a4 lk:Int) (hs:Slots w sb n E) (hp:StackP w fs n L F) (hw:WheelP w wg G now M Y) (d:∀ b,F b→¬ Y b) (d2:∀ b,F b∨Y b→b≠sb) (hn:n≤4096) :
  TabP (w.alloc (.cells #[.int .i64 a1,.int .i64 a2,.int .i64 a3,.int .i64 a4,.pointer (some ⟨fs,0,none⟩),.pointer (some ⟨wg,0,none⟩),.slice (some ⟨sb,0,none⟩) n n,.int .i64 lk] 201)) w.heap.size sb n ⟨a1,a2,a3,a4,G⟩ ⟨now,M,L,E,lk⟩ (fun b=>b=w.heap.size∨b=sb∨F b∨Y b):=by
 have k:Chg (fun _=>False) w (w.alloc (.cells #[.int .i64 a1,.int .i64 a2,.int .i64 a3,.int .i64 a4,.pointer (some ⟨fs,0,none⟩),.pointer (some ⟨wg,0,none⟩),.slice (some ⟨sb,0,none⟩) n n,.int .i64 lk] 201)):=Chg.of_below (Aa (Below.refl _ _) _)
 have hsl:=hs.lt
 refine ⟨fs,wg,F,Y,Blk.new w _ _,hp.chg k fun _ _ h=>h,hw.chg k fun _ _ h=>h,hs.chg k fun h=>h,fun b=>Iff.rfl,d,fun b hb=>⟨fun e=>?_,d2 b hb⟩,by omega,hn⟩
 rcases hb with hb | hb
 ·
  have:=hp.lt hb
  omega
 ·
  have:=hw.lt hb
  omega
def numE (k:Nat):Nat→Slt:=fun i=>if i<k then { slt0 with sl:=i } else slt0
theorem Qa (k:Nat):updE (numE k) k { slt0 with sl:=k }=numE (k+1):=by
 funext i
 unfold updE numE
 by_cases e:i=k
 ·
  subst e
  rw [if_pos rfl,if_pos (by omega)]
 ·
  rw [if_neg e]
  by_cases h:i<k
  · rw [if_pos h,if_pos (by omega)]
  · rw [if_neg h,if_neg (by omega)]
theorem JK (k:Nat):numE k k=slt0:=if_neg (by omega)
theorem Slots.congr {w:World} {sb n:Nat} {E E':Nat→Slt} (h:Slots w sb n E) (he:∀ i,i<n→E' i=E i):Slots w sb n E':=by
 obtain ⟨Z,h1,h2,h3⟩:=h
 exact ⟨Z,h1,h2,fun i hi j hj=>by rw [he i hi];exact h3 i hi j hj⟩
theorem TabP.congr {w:World} {g sb n:Nat} {c:TCfg} {s:TSt} {X:Nat→Prop} (h:TabP w g sb n c s X) {E':Nat→Slt} (he:∀ i,i<n→E' i=s.E i):TabP w g sb n c { s with E:=E' } X:=by
 obtain ⟨fs,wg,F',Y,h1,h2,h3,h4,h5⟩:=h
 exact ⟨fs,wg,F',Y,h1,h2,h3,h4.congr he,h5⟩
set_option maxRecDepth 100000 in
set_option maxHeartbeats 4000000 in
theorem Sy (b:Nat) (hb:b≤12) (a1 a2 a3 a4:Int) (hr:Du a1 a2 a3 a4=true) (G:Int) (hG:1≤G∧G≤1024) (w:World) :
  Calls Tryz.prog 74 #[.int .i64 b,.agg #[.int .i64 a1,.int .i64 a2,.int .i64 a3,.int .i64 a4],.int .i64 G] w fun e w'=>∃ g sb X,e=.returned (.tuple #[.pointer (some ⟨g,0,none⟩),.int .i64 0])∧TabP w' g sb (2 ^ b) ⟨a1,a2,a3,a4,G⟩ ⟨0,[],upto (2 ^ b) 0,fun k=>{ slt0 with sl:=k },0⟩ X∧Below w.heap.size w w'∧∀ b,X b→w.heap.size≤b:=by
 obtain ⟨n,hn⟩:∃ n,2 ^ b=n:=⟨_,rfl⟩
 have hn2:n≤4096:=by rw [← hn];exact Nat.le_trans (Nat.pow_le_pow_right (by omega) hb) (by decide)
 have hsh:IntKind.i64.wrap (2 ^ b)=(n:Int):=by
  have e:((2:Int) ^ b)=(n:Int):=by rw [← hn];simp
  rw [e]
  simp [IntKind.wrap,IntKind.bits,IntKind.signed]
  omega
 rw [hn]
 have x1:¬ 12<b:=by omega
 have WN:=Lib.hid fun W=>Ik G W hG
 have RT:=Lib.hid fun W=>JA a1 a2 a3 a4 W
 rw [hr] at RT
 replace hn:=Lib.hid hn
 go_enter Tryz.func74,Tryz.ntmps74
 go_upto_region 1 with fail
 have R0:=Blk.new w 28 #[.int .i64 a1,.int .i64 a2,.int .i64 a3,.int .i64 a4]
 have hb0:Below w.heap.size w (w.alloc (.cells #[.int .i64 a1,.int .i64 a2,.int .i64 a3,.int .i64 a4] 28)):=Aa (Below.refl _ _) _
 generalize w.alloc (.cells #[.int .i64 a1,.int .i64 a2,.int .i64 a3,.int .i64 a4] 28)=w0 at *
 have hr0:w.heap.size≤w.heap.size:=Nat.le_refl _
 obtain ⟨r,hrr⟩:∃ r,w.heap.size=r:=⟨_,rfl⟩
 rw [hrr] at R0
 try rw [hrr]
 go_wp2_with fail
 refine (WN.out _).mono ?_
 rintro e w1 ⟨wg,Y,rfl,hW,hb1,hY⟩
 have R1:=R0.call hb1
 have c0:=R1.cell 0
 have c1:=R1.cell 1
 have c2:=R1.cell 2
 have c3:=R1.cell 3
 simp at c0 c1 c2 c3
 have x2:decide (12<b)=false:=by simp;omega
 go_upto_region 4 with (go_at_call 77;(with_reducible refine (RT.out _).mono ?_);rintro e w2 ⟨rfl,hb2⟩)
 obtain ⟨i0,hi0,hz0,hz1,hz2⟩:=info_parts Q9
 have hmk:∀ W:World,(Instr.makeSlice 199 (.int .i64 (n:Int)) (.int .i64 (n:Int))).run Tryz.prog W=.ok (.slice (some ⟨W.heap.size,0,none⟩) n n) (W.alloc (.cells (madeCells slt0.cells.toArray (n * 15)) 203)):=fun W=>by
  have:=run_make (P:=Tryz.prog) W 199 203 i0 _ Tryz.underlying199 hi0 hz0 .i64 .i64 n n (by omega) (by omega) (by rw [hz2];omega) (by omega)
  rw [hz1] at this
  exact this
 have SN:=Lib.hid fun W=>Sd n W hn2
 have d0:=(hb2.cell (A0 c0)).trans c0
 have d1:=(hb2.cell (A0 c1)).trans c1
 have d2:=(hb2.cell (A0 c2)).trans c2
 have d3:=(hb2.cell (A0 c3)).trans c3
 clear c0 c1 c2 c3 R0 hi0 hz0 hz1 hz2
 have HA:=Lib.hid fun (W:World) (o:Obj) (h:Below w2.heap.size w2 W∧W.cell? ⟨r,0,none⟩=some (.int .i64 a1)∧W.cell? ⟨r,1,none⟩=some (.int .i64 a2)∧W.cell? ⟨r,2,none⟩=some (.int .i64 a3)∧W.cell? ⟨r,3,none⟩=some (.int .i64 a4))=>hold4 h (Aa (Below.refl W.heap.size W) o)
 have W2:=Lib.hid fun W (h:Below w2.heap.size w2 W)=>(hW.chg (F:=fun _=>False) (Chg.of_below hb2) (fun _ _ h=>h)).chg (F:=fun _=>False) (Chg.of_below h) (fun _ _ h=>h)
 have hYl:∀ b,Y b→w0.heap.size≤b∧b<w2.heap.size:=fun b hb=>by have:=hW.lt hb;have:=hY b hb;have:=hb2.size;omega
 have hb02:Below w.heap.size w w2:=A8 hb2 (A8 hb1 hb0)
 replace hYl:=Lib.hid hYl
 replace hb02:=Lib.hid hb02
 have hz2:=hb02.out.size
 have hz0:=hb0.size
 clear hW hY R1 hb0 hb1 hb2
 go_region_held3 (fun W=>Below w2.heap.size w2 W∧W.cell? ⟨r,0,none⟩=some (.int .i64 a1)∧W.cell? ⟨r,1,none⟩=some (.int .i64 a2)∧W.cell? ⟨r,2,none⟩=some (.int .i64 a3)∧W.cell? ⟨r,3,none⟩=some (.int .i64 a4)) (first | ((first | assumption | ((refine ⟨?_,?_⟩;(first | assumption | exact (Below.refl _ _).drew | exact Below.refl _ _);go_keep)))) | exact HA.out _ _ (by assumption)) (first
  | (go_at_call 138;(with_reducible refine (SN.out _).mono ?_);rintro e w3 ⟨fs,F3,rfl,hP3,hb3,hF3⟩;have hS3:=hold4 (by assumption) hb3))
 all_goals have hYl2:=hYl.out
 case' refine_2.refine_3.refine_3.refine_3.refine_3.refine_3.refine_3.refine_1.refine_2.refine_1.refine_2.refine_3.refine_1.refine_2.refine_3 =>
  have hF3:∀ b,F3 b→w2.heap.size≤b:=hF3
  have hba:=Aa (Below.refl w3.heap.size w3) (.cells (madeCells slt0.cells.toArray (n * 15)) 203)
  have hT:=OY a1 a2 a3 a4 0 (Iu w3 n) (hP3.chg (G:=fun _=>False) (Chg.of_below hba) (fun _ _ h=>h)) (W2.out _ (A8 hba hS3.1)) (fun b hF hY=>by have:=hF3 b hF;have:=hYl2 b hY;omega) (fun b hb=>by
   have hz:=hS3.1.size
   rcases hb with hb | hb
   ·
    have:=hP3.lt hb
    omega
   ·
    have:=hYl2 b hb
    omega) hn2
  rw [World.size_alloc] at hT
  have hbW:Below w.heap.size w _:=A8 (Aa (Below.refl _ _) (.cells #[.int .i64 a1,.int .i64 a2,.int .i64 a3,.int .i64 a4,.pointer (some ⟨fs,0,none⟩),.pointer (some ⟨wg,0,none⟩),.slice (some ⟨w3.heap.size,0,none⟩) n n,.int .i64 0] 201)) (A8 hba (A8 hS3.1 hb02.out))
  have hXn:∀ b,(b=w3.heap.size+1∨b=w3.heap.size∨F3 b∨Y b)→w.heap.size≤b:=fun b hb=>by
   have hz:=hS3.1.size
   rcases hb with hb | hb | hb | hb
   · omega
   · omega
   ·
    have:=hF3 b hb
    omega
   ·
    have:=hYl2 b hb
    omega
  generalize (w3.alloc (.cells (madeCells slt0.cells.toArray (n * 15)) 203)).alloc (.cells #[.int .i64 a1,.int .i64 a2,.int .i64 a3,.int .i64 a4,.pointer (some ⟨fs,0,none⟩),.pointer (some ⟨wg,0,none⟩),.slice (some ⟨w3.heap.size,0,none⟩) n n,.int .i64 0] 201)=w4 at *
  generalize hX:(fun b=>b=w3.heap.size+1∨b=w3.heap.size∨F3 b∨Y b)=X at *
  generalize hg:w3.heap.size+1=g at *
  generalize hsb:w3.heap.size=sb at *
 case' refine_2.refine_3.refine_3.refine_3.refine_3.refine_3.refine_3.refine_2.refine_1.refine_2.refine_1.refine_2.refine_3.refine_1.refine_2.refine_3 =>
  have hF3:∀ b,F3 b→(w2.alloc (.cells (madeCells slt0.cells.toArray (n * 15)) 203)).heap.size≤b:=hF3
  rw [World.size_alloc] at hF3
  have hSl:Slots (w2.alloc (.cells (madeCells slt0.cells.toArray (n * 15)) 203)).drew w2.heap.size n (fun _=>slt0):=Iu w2 n
  have hz3:w2.heap.size+1≤w3.heap.size:=by
   have h5:(w2.alloc (.cells (madeCells slt0.cells.toArray (n * 15)) 203)).heap.size≤w3.heap.size:=hb3.size
   rw [World.size_alloc] at h5
   exact h5
  have hT:=OY a1 a2 a3 a4 0 (hSl.chg (F:=fun _=>False) (Chg.of_below hb3) (fun h=>h)) hP3 (W2.out _ hS3.1) (fun b hF hY=>by have:=hF3 b hF;have:=hYl2 b hY;omega) (fun b hb=>by
   rcases hb with hb | hb
   ·
    have:=hF3 b hb
    omega
   ·
    have:=hYl2 b hb
    omega) hn2
  have hbW:Below w.heap.size w _:=A8 (Aa (Below.refl _ _) (.cells #[.int .i64 a1,.int .i64 a2,.int .i64 a3,.int .i64 a4,.pointer (some ⟨fs,0,none⟩),.pointer (some ⟨wg,0,none⟩),.slice (some ⟨w2.heap.size,0,none⟩) n n,.int .i64 0] 201)) (A8 hS3.1 hb02.out)
  have hXn:∀ b,(b=w3.heap.size∨b=w2.heap.size∨F3 b∨Y b)→w.heap.size≤b:=fun b hb=>by
   rcases hb with hb | hb | hb | hb
   · omega
   · omega
   ·
    have:=hF3 b hb
    omega
   ·
    have:=hYl2 b hb
    omega
  generalize w3.alloc (.cells #[.int .i64 a1,.int .i64 a2,.int .i64 a3,.int .i64 a4,.pointer (some ⟨fs,0,none⟩),.pointer (some ⟨wg,0,none⟩),.slice (some ⟨w2.heap.size,0,none⟩) n n,.int .i64 0] 201)=w4 at *
  generalize hX:(fun b=>b=w3.heap.size∨b=w2.heap.size∨F3 b∨Y b)=X at *
  generalize hg:w3.heap.size=g at *
  generalize hsb:w2.heap.size=sb at *
 all_goals
  have hXn2:∀ b,X b→w.heap.size≤b:=by rw [← hX];exact hXn
  have c6:=hT.cells.1
  replace hXn2:=Lib.hid hXn2
  replace hbW:=Lib.hid hbW
  replace hT:=Lib.hid hT
  clear HA W2 SN RT WN hmk hXn hX hS3 hP3 hF3 hb3 d0 d1 d2 d3 hYl2
  go_wp2_with fail
  go_loopw [43] (fun kv wr=>∃ k:Nat,k≤n∧kv=.int .i64 (k:Nat)∧TabP wr g sb n ⟨a1,a2,a3,a4,G⟩ ⟨0,[],upto n 0,numE k,0⟩ X∧Below w.heap.size w wr) (fun kv _=>n - (intOf kv).toNat)
  case atStart=>exact ⟨0,by omega,rfl,hT.out,hbW.out⟩
  case round =>
   obtain ⟨k,hk,rfl,hA,hb⟩:=hrel
   by_cases hlt:k<n
   ·
    have hlti:(k:Int)<(n:Int):=by omega
    have d6:=hA.cells.1
    have f11:=hA.slotf (k * 15+11)
    have c11:=(hA.slot hlt 11 (by omega)).trans rfl
    simp [JK] at c11
    have h1:=hA.setE hlt 11 (by omega) (.int .i64 (k:Int)) { slt0 with sl:=k } (by simp [JK,slt0])
    rw [Qa] at h1
    have h2:=hb.setCell (p:=⟨sb,k * 15+11,none⟩) (hXn2.out _ hA.sbX) (.int .i64 (k:Int))
    replace h1:=Lib.hid h1
    replace h2:=Lib.hid h2
    replace hA:=Lib.hid hA
    replace hb:=Lib.hid hb
    go_wp2_with fail
    go_roundw
    case rel=>exact ⟨k+1,by omega,by go_num,h1.out,h2.out⟩
    case measure=>simp [intOf];omega
   ·
    obtain rfl:k=n:=by omega
    have hlti:¬ (k:Int)<(k:Int):=by omega
    have h1:=hA.congr (E':=fun k=>{ slt0 with sl:=k }) (fun i hi=>by show _=numE k i;unfold numE;rw [if_pos hi])
    replace h1:=Lib.hid h1
    replace hA:=Lib.hid hA
    replace hb:=Lib.hid hb
    go_wp2_with fail
    go_ret2
    first | exact ⟨g,sb,X,rfl,h1.out,hrr ▸ hb.out,hrr ▸ hXn2.out⟩ | exact ⟨g,rfl,sb,X,h1.out,hrr ▸ hb.out,hrr ▸ hXn2.out⟩
end Go.Proofs.YteklkljndchjiaaGreat
