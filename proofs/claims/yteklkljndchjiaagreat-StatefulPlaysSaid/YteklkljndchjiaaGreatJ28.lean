/- wheel: the order in which numbers come: by turn, then by number. wheel: numbers sorted by turn, then by number. wheel: plain law: the numbers that come are those whose turn is over, each once. wheel: Go. wheel: Go at a time that may be. wheel: the document's wheel: New, Unset, Due, turn. wheel: the document's Due and Unset. wheel: the document's Set. wheel: the document's Set at a .. -/
import Derived.Test.YteklkljndchjiaaGreatJ9
import Derived.Shelf.SlSortCmp.Whole1
import Derived.Test.YteklkljndchjiaaGreatJ27
import Derived.Test.YteklkljndchjiaaGreatSortIL
import Derived.Test.YteklkljndchjiaaGreatJ21
import Derived.Shelf.SlSortCmp.NoneTotal
import Derived.Deep.CutRange
import Derived.Deep.CutBlock
import Derived.Test.YteklkljndchjiaaGreatJ8
import Derived.Test.YteklkljndchjiaaGreatJ7
import Derived.Test.YteklkljndchjiaaGreatJ14
import Derived.Deep.RegionHeld3
namespace Go.Proofs.YteklkljndchjiaaGreat
open Go Go.RowKit Go.Deep
theorem gr_of1 {w w':World} (hb:Below w.heap.size w w') (hd:w.drawn≤w'.drawn):∃ q os,w'=Sort.grow (w.drewN q) os:=by
 refine ⟨w'.drawn - w.drawn,w'.heap.extract w.heap.size w'.heap.size,?_⟩
 obtain ⟨h1,h2,h3,h4,h5⟩:=hb
 have hh:w'.heap=w.heap ++ w'.heap.extract w.heap.size w'.heap.size:=by
  apply Array.ext_getElem?
  intro i
  rw [Array.getElem?_append]
  split
  ·
   rename_i hi
   exact h5 i hi
  ·
   rename_i hi
   rw [Array.getElem?_extract]
   split
   ·
    congr 1
    omega
   ·
    rename_i hj
    rw [Array.getElem?_eq_none]
    omega
 cases w
 cases w'
 simp only [Sort.grow,World.drewN] at *
 simp only [World.mk.injEq]
 refine ⟨hh,h2,by omega,h1,h3⟩
section
variable {α:Type} [Inhabited α] {f:α→Int}
abbrev encI (f:α→Int) (x:α):Value:=.int .i64 (f x)
theorem Nh {w:World} {base gp cap:Nat} {l:List α} (h:OwnI w base (some ⟨gp,0,none⟩) cap (l.map f)):Sort.Holds (encI f) w gp 0 l.toArray:=by
 intro j hj
 have hj':j<l.length:=by simpa using hj
 have f1:=h.cellAt j (by simpa using hj')
 rw [Dk,List.getElem?_map,List.getElem?_map,List.getElem?_eq_getElem hj'] at f1
 rw [Nat.zero_add]
 refine ⟨?_,h.frozenAt j⟩
 rw [f1]
 simp [hj']
theorem Kj {w:World} {gp:Nat} {d:Array α} (h:Sort.Holds (encI f) w gp 0 d) (hb:gp<w.heap.size):Reads w w.heap.size 1 (some ⟨gp,0,none⟩) d.size ((d.toList.map f).map (.int .i64)):=by
 refine ⟨by simp,fun _=>⟨_,rfl,hb,fun j u hu=>?_⟩⟩
 have hj:j<d.size:=by
  have:=(List.getElem?_eq_some_iff.1 hu).1
  simpa using this
 have k:=(h j hj).1
 rw [Nat.zero_add] at k
 have eb:(⟨gp,0,none⟩:Addr).add j=⟨gp,j,none⟩:=by
  simp [Addr.add]
  intro h
  omega
 rw [eb,k,← hu]
 simp [hj]
theorem I6 {enc:α→Value} {w:World} {gp n:Nat} {d:Array α} {os:Array Obj}:Chg (·=gp) w (sortWorld enc w gp 0 n d os):=by
 have hs:(Sort.putRow enc (Sort.ahead w n) gp 0 d).heap.size=w.heap.size:=by
  unfold Sort.putRow Sort.mapBlock
  show ((Sort.ahead w n).heap.modify gp _).size=_
  rw [Array.size_modify]
  rfl
 refine ⟨rfl,rfl,rfl,?_,fun b hb hF=>?_⟩
 ·
  unfold sortWorld
  rw [Sort.size_grow,hs]
  omega
 unfold sortWorld
 have hz:b<(Sort.putRow enc (Sort.ahead w n) gp 0 d).heap.size:=by rw [hs];exact hb
 rw [Sort.heap_grow_old _ _ hz]
 unfold Sort.putRow Sort.mapBlock
 show ((Sort.ahead w n).heap.modify gp _)[b]?=w.heap[b]?
 rw [Array.getElem?_modify,if_neg (fun e=>hF e.symm)]
 rfl
end
end Go.Proofs.YteklkljndchjiaaGreat
namespace Go.Proofs.YteklkljndchjiaaGreat
open Go Go.RowKit Go.Deep Go.Maps Go.ChangeMaps
theorem Gm (x y:Int) (w:World):Calls Tryz.prog 236 #[.int .i64 x,.int .i64 y] w fun e w'=>e=.returned (.int .i64 (cmpI x y))∧w=w':=by
 go_enter Tryz.func236,Tryz.ntmps236
 go_wp2
 all_goals go_ret
 all_goals refine ⟨De ?_,rfl⟩
 all_goals (unfold cmpI;repeat' split) <;> omega
def ordT (G:Int) (M:LM) (x y:Int):Int:=orI (cmpI (turnI G (lmGet M x)) (turnI G (lmGet M y))) (cmpI x y)
section
variable {w:World} {base g bm:Nat} {G now:Int} {M:LM} {R:Nat→List Int} {A:Nat→Option Addr} {C:Nat→Nat} {T:Nat→Int} {Z:Array Value}
set_option maxRecDepth 100000 in
set_option maxHeartbeats 4000000 in
theorem Sv (h:WhAt w base g bm G now M R A C T Z) (hG:1≤G∧G≤1024) (gv:Nat) (hv:w.cell? ⟨gv,0,none⟩=some (.pointer (some ⟨g,0,none⟩))) (x y:Int) (hx:0≤x∧x≤4095∧0≤lmGet M x∧lmGet M x≤2199023255552) (hy:0≤y∧y≤4095∧0≤lmGet M y∧lmGet M y≤2199023255552) :
  Calls Tryz.prog 234 #[.int .i64 x,.int .i64 y,.pointer (some ⟨gv,0,none⟩)] w fun e w'=>e=.returned (.int .i64 (ordT G M x y))∧Below w.heap.size w w'∧w.drawn≤w'.drawn:=by
 have hkx:(Lit.int .i64 x).wf=true:=BD (by omega) (by omega)
 have hky:(Lit.int .i64 y).wf=true:=BD (by omega) (by omega)
 have TX:∀ W,Below w.heap.size w W→Calls Tryz.prog 237 #[.pointer (some ⟨g,0,none⟩),.int .i64 (lmGet M x)] W fun e w'=>e=.returned (.int .i64 (turnI G (lmGet M x)))∧Below W.heap.size W w'∧W.drawn≤w'.drawn:=fun W hb=>(Er (h.call hb) hG _ ⟨hx.2.2.1,hx.2.2.2⟩).mono fun e w' ⟨h1,n,h2⟩=>⟨h1,h2 ▸ Al (Below.refl _ _) n,h2 ▸ Nat.le_add_right _ _⟩
 have TY:∀ W,Below w.heap.size w W→Calls Tryz.prog 237 #[.pointer (some ⟨g,0,none⟩),.int .i64 (lmGet M y)] W fun e w'=>e=.returned (.int .i64 (turnI G (lmGet M y)))∧Below W.heap.size W w'∧W.drawn≤w'.drawn:=fun W hb=>(Er (h.call hb) hG _ ⟨hy.2.2.1,hy.2.2.2⟩).mono fun e w' ⟨h1,n,h2⟩=>⟨h1,h2 ▸ Al (Below.refl _ _) n,h2 ▸ Nat.le_add_right _ _⟩
 unfold ordT
 have LX:=fun W (hb:Below w.heap.size w W)=>(h.call hb).map.look hkx
 have LY:=fun W (hb:Below w.heap.size w W)=>(h.call hb).map.look hky
 have CV:∀ W,Below w.heap.size w W→W.cell? ⟨gv,0,none⟩=some (.pointer (some ⟨g,0,none⟩)):=fun W hb=>(hb.cell (A0 hv)).trans hv
 have CM:∀ W,Below w.heap.size w W→W.cell? ⟨g,2,none⟩=some (.map (some bm)):=fun W hb=>(h.call hb).cell h.z2
 generalize lmGet M x=dx at *
 generalize lmGet M y=dy at *
 generalize turnI G dx=tx at *
 generalize turnI G dy=ty at *
 have C1:=fun W=>Gm tx ty W
 have C2:=fun W=>Gm x y W
 generalize cmpI tx ty=c1 at *
 generalize cmpI x y=c2 at *
 have OR:=fun g W h=>or_any c1 c2 g W h
 generalize orI c1 c2=c3 at *
 have hS0:∀ W,Below w.heap.size w W→w.drawn≤W.drawn→Below w.heap.size w W∧w.drawn≤W.drawn∧W.cell? ⟨gv,0,none⟩=some (.pointer (some ⟨g,0,none⟩))∧W.cell? ⟨g,2,none⟩=some (.map (some bm))∧(Instr.lookup 161 (.map (some bm)) (.int .i64 x) false).run Tryz.prog W=.ok (.int .i64 dx) W∧(Instr.lookup 161 (.map (some bm)) (.int .i64 y) false).run Tryz.prog W=.ok (.int .i64 dy) W:=fun W hb hd=>⟨hb,hd,CV W hb,CM W hb,LX W hb,LY W hb⟩
 have hB:∀ W,(Below w.heap.size w W∧w.drawn≤W.drawn∧W.cell? ⟨gv,0,none⟩=some (.pointer (some ⟨g,0,none⟩))∧W.cell? ⟨g,2,none⟩=some (.map (some bm))∧(Instr.lookup 161 (.map (some bm)) (.int .i64 x) false).run Tryz.prog W=.ok (.int .i64 dx) W∧(Instr.lookup 161 (.map (some bm)) (.int .i64 y) false).run Tryz.prog W=.ok (.int .i64 dy) W)→Below w.heap.size w W:=fun W h=>h.1
 have hD:∀ W,(Below w.heap.size w W∧w.drawn≤W.drawn∧W.cell? ⟨gv,0,none⟩=some (.pointer (some ⟨g,0,none⟩))∧W.cell? ⟨g,2,none⟩=some (.map (some bm))∧(Instr.lookup 161 (.map (some bm)) (.int .i64 x) false).run Tryz.prog W=.ok (.int .i64 dx) W∧(Instr.lookup 161 (.map (some bm)) (.int .i64 y) false).run Tryz.prog W=.ok (.int .i64 dy) W)→w.drawn≤W.drawn:=fun W h=>h.2.1
 have hAl:∀ W o,(Below w.heap.size w W∧w.drawn≤W.drawn∧W.cell? ⟨gv,0,none⟩=some (.pointer (some ⟨g,0,none⟩))∧W.cell? ⟨g,2,none⟩=some (.map (some bm))∧(Instr.lookup 161 (.map (some bm)) (.int .i64 x) false).run Tryz.prog W=.ok (.int .i64 dx) W∧(Instr.lookup 161 (.map (some bm)) (.int .i64 y) false).run Tryz.prog W=.ok (.int .i64 dy) W)→(fun W=>Below w.heap.size w W∧w.drawn≤W.drawn∧W.cell? ⟨gv,0,none⟩=some (.pointer (some ⟨g,0,none⟩))∧W.cell? ⟨g,2,none⟩=some (.map (some bm))∧(Instr.lookup 161 (.map (some bm)) (.int .i64 x) false).run Tryz.prog W=.ok (.int .i64 dx) W∧(Instr.lookup 161 (.map (some bm)) (.int .i64 y) false).run Tryz.prog W=.ok (.int .i64 dy) W) (W.alloc o):=fun W o h=>hS0 _ (Aa h.1 o) h.2.1
 have hDr:∀ W,(Below w.heap.size w W∧w.drawn≤W.drawn∧W.cell? ⟨gv,0,none⟩=some (.pointer (some ⟨g,0,none⟩))∧W.cell? ⟨g,2,none⟩=some (.map (some bm))∧(Instr.lookup 161 (.map (some bm)) (.int .i64 x) false).run Tryz.prog W=.ok (.int .i64 dx) W∧(Instr.lookup 161 (.map (some bm)) (.int .i64 y) false).run Tryz.prog W=.ok (.int .i64 dy) W)→(fun W=>Below w.heap.size w W∧w.drawn≤W.drawn∧W.cell? ⟨gv,0,none⟩=some (.pointer (some ⟨g,0,none⟩))∧W.cell? ⟨g,2,none⟩=some (.map (some bm))∧(Instr.lookup 161 (.map (some bm)) (.int .i64 x) false).run Tryz.prog W=.ok (.int .i64 dx) W∧(Instr.lookup 161 (.map (some bm)) (.int .i64 y) false).run Tryz.prog W=.ok (.int .i64 dy) W) W.drew:=fun W h=>hS0 _ h.1.drew (Nat.le_succ_of_le h.2.1)
 replace hAl:=Lib.hid hAl
 replace hDr:=Lib.hid hDr
 replace hB:=Lib.hid hB
 replace hD:=Lib.hid hD
 replace hS0:=Lib.hid hS0
 replace TX:=Lib.hid TX
 replace TY:=Lib.hid TY
 replace C1:=Lib.hid C1
 replace C2:=Lib.hid C2
 replace OR:=Lib.hid OR
 have hS1:=hS0.out w (Below.refl _ _) (Nat.le_refl _)
 clear h hx hy hkx hky LX LY CV CM hv
 go_enter Tryz.func234,Tryz.ntmps234
 go_wp2_with fail
 go_region_held3 (fun W=>Below w.heap.size w W∧w.drawn≤W.drawn∧W.cell? ⟨gv,0,none⟩=some (.pointer (some ⟨g,0,none⟩))∧W.cell? ⟨g,2,none⟩=some (.map (some bm))∧(Instr.lookup 161 (.map (some bm)) (.int .i64 x) false).run Tryz.prog W=.ok (.int .i64 dx) W∧(Instr.lookup 161 (.map (some bm)) (.int .i64 y) false).run Tryz.prog W=.ok (.int .i64 dy) W)
  ((first | assumption | exact hAl.out _ _ (by assumption) | exact hDr.out _ (by assumption))) (first
  | (go_at_call 237;(with_reducible refine (TX.out _ (hB.out _ (by assumption))).mono ?_);rintro e w1 ⟨rfl,hb1,hd1⟩;have hS:=hS0.out _ (A8 hb1 (hB.out _ (by assumption))) (Nat.le_trans (hD.out _ (by assumption)) hd1))
  | (go_at_call 237;(with_reducible refine (TY.out _ (hB.out _ (by assumption))).mono ?_);rintro e w1 ⟨rfl,hb1,hd1⟩;have hS:=hS0.out _ (A8 hb1 (hB.out _ (by assumption))) (Nat.le_trans (hD.out _ (by assumption)) hd1))
  | (go_at_call 236;(with_reducible refine (C1.out _).mono ?_);rintro e w1 ⟨rfl,rfl⟩)
  | (go_at_call 236;(with_reducible refine (C2.out _).mono ?_);rintro e w1 ⟨rfl,rfl⟩)
  | (go_at_call 235;refine (OR.out _ _ (Blk.new _ _ _)).mono ?_;rintro e w1 ⟨rfl,rfl⟩))
 all_goals
  go_wp2_with fail
  go_ret
  exact ⟨rfl,by first | exact hB.out _ (by assumption) | exact Aa (hB.out _ (by assumption)) _,by first | exact hD.out _ (by assumption)⟩
end
def leT (G:Int) (M:LM) (x y:Int):Prop:=turnI G (lmGet M x)<turnI G (lmGet M y)∨turnI G (lmGet M x)=turnI G (lmGet M y)∧x≤y
abbrev WB (M:LM):={x:Int // lmHas M x=true}
def wbO (G:Int) (M:LM) (x y:WB M):Int:=ordT G M x.1 y.1
theorem wb_lt {G:Int} {M:LM} (x y:WB M):ltOf (wbO G M) x y=true ↔ turnI G (lmGet M x.1)<turnI G (lmGet M y.1)∨turnI G (lmGet M x.1)=turnI G (lmGet M y.1)∧x.1<y.1:=by
 unfold ltOf wbO ordT orI cmpI
 rw [decide_eq_true_iff]
 split <;> split <;> (try split) <;> (try split) <;> omega
theorem Nu {G:Int} {M:LM} (x y:WB M):ltOf (wbO G M) x y=false ↔ leT G M y.1 x.1:=by
 have:=wb_lt (G:=G) x y
 unfold leT
 cases h:ltOf (wbO G M) x y
 ·
  rw [h] at this
  simp at this
  simp
  omega
 ·
  rw [h] at this
  simp at this
  simp
  omega
theorem swoW (G:Int) (M:LM):Sort.SWO (ltOf (wbO G M)) where
 irrefl x:=by rw [Nu];unfold leT;omega
 trans x y z h1 h2:=by rw [wb_lt] at *;omega
 ntrans x y z h1 h2:=by rw [Nu] at *;unfold leT at *;omega
theorem OO {M:LM}:∀ (l:List Int),(∀ x ∈ l,lmHas M x=true)→∃ ls:List (WB M),ls.map Subtype.val=l
 | [],_=>⟨[],rfl⟩
 | x :: r,h=>by
  obtain ⟨ls,e⟩:=OO r fun y hy=>h y (List.mem_cons_of_mem _ hy)
  exact ⟨⟨x,h x (List.mem_cons_self ..)⟩ :: ls,by simp [e]⟩
section
variable {w w':World} {base g bm:Nat} {G now:Int} {M:LM} {R:Nat→List Int} {A:Nat→Option Addr} {C:Nat→Nat} {T:Nat→Int} {Z:Array Value}
abbrev Nv (gv:Nat):Value:=.func (Fn.func 234) #[] #[.pointer (some ⟨gv,0,none⟩)]
theorem wsort (h:WhAt w base g bm G now M R A C T Z) (inv:RowInv M R T) (hG:1≤G∧G≤1024) {gv gp cap b0:Nat} (hv:w.cell? ⟨gv,0,none⟩=some (.pointer (some ⟨g,0,none⟩))) {L:List Int} (hL:∀ x ∈ L,lmHas M x=true) (hO:OwnI w b0 (some ⟨gp,0,none⟩) cap L) (hp:¬ whF g bm A gp) (hpv:gp≠gv) (h0:0<L.length) (hl:L.length≤1000000) :
  Calls Tryz.prog 233 #[.slice (some ⟨gp,0,none⟩) L.length cap,Nv gv] w fun e w'=>e=.returned (.tuple #[])∧∃ S:List Int,S.Perm L∧S.Pairwise (leT G M)∧Reads w' w'.heap.size 1 (some ⟨gp,0,none⟩) S.length (S.map (.int .i64))∧Chg (·=gp) w w':=by
 obtain ⟨ls,hls⟩:=OO L hL
 have hlen:ls.length=L.length:=by rw [← hls,List.length_map]
 have hne:ls≠[]:=fun e=>by rw [e] at hlen;simp at hlen;omega
 obtain ⟨x0,r0,hx0⟩:=List.exists_cons_of_ne_nil hne
 letI:Inhabited (WB M):=⟨x0⟩
 have hgp:gp<w.heap.size:=(hO.block ⟨_,rfl,rfl⟩).2
 rw [← hls] at hO
 have hH:=Nh hO
 have eg:∀ args w,(callFunc 234 args).run Tryz.prog w=.ok (.enter 234 args) w:=enters_of Tryz.func234 (by kernel_rfl) rfl
 have hsz0:ls.toArray.size=L.length:=by simp [hlen]
 have hcmp:CmpLays1 Tryz.prog 234 #[.pointer (some ⟨gv,0,none⟩)] (encI (Subtype.val:WB M→Int)) (wbO G M) gp 0 ls.toArray.size w:=by
  intro m os dk hdk x y
  have k:=I6 (enc:=encI (Subtype.val:WB M→Int)) (w:=w) (gp:=gp) (n:=m) (d:=dk) (os:=os)
  have h2:=h.chg k (fun b e hw=>hp (e ▸ hw))
  have hv2:=(Af k (A0 hv) (fun e=>hpv e.symm)).trans hv
  have rx:=inv.idr _ (Dl x.2)
  have ry:=inv.idr _ (Dl y.2)
  refine (Sv h2 hG gv hv2 x.1 y.1 ⟨rx.1,rx.2.1,rx.2.2.1,rx.2.2.2⟩ ⟨ry.1,ry.2.1,ry.2.2.1,ry.2.2.2⟩).mono ?_
  rintro e w' ⟨rfl,hb,hd⟩
  exact ⟨rfl,gr_of1 hb hd⟩
 have K:=Any.slices_SortFunc Tryz.sortI (encI (Subtype.val:WB M→Int)) (fun x=>rfl) (wbO G M) (swoW G M) 234 #[.pointer (some ⟨gv,0,none⟩)] gp 0 cap ls.toArray w eg hcmp hH hgp (by rw [hsz0];omega)
 rw [hsz0] at K
 change Calls Tryz.prog 233 _ _ _ at K
 refine K.mono ?_
 rintro e w' ⟨rfl,d',n,os,hpm,hs,rfl⟩
 have hsz:d'.size=ls.toArray.size:=hpm.1
 have hR:=Kj (holds_sortWorld (encI (Subtype.val:WB M→Int)) w gp 0 n ls.toArray d' os hgp hH hsz) (lt_sortWorld (encI (Subtype.val:WB M→Int)) w gp 0 n d' os hgp)
 refine ⟨rfl,d'.toList.map Subtype.val,?_,?_,?_,I6⟩
 ·
  have:=hpm.2.2
  rw [← hsz0,← hsz] at this
  have e1:d'.extract 0 d'.size=d':=by simp
  have e2:ls.toArray.extract 0 d'.size=ls.toArray:=by rw [hsz];simp
  rw [e1,e2] at this
  have p2:d'.toList.Perm ls:=by simpa using this
  rw [← hls]
  exact p2.map _
 ·
  rw [List.pairwise_iff_getElem]
  intro i j hi hj hij
  have hi':i<d'.size:=by simpa using hi
  have hj':j<d'.size:=by simpa using hj
  have:=hs i j (Nat.zero_le _) hij (by omega)
  rw [Nu] at this
  simpa [hi',hj'] using this
 · simpa using hR
theorem PZ (h:WhAt w base g bm G now M R A C T Z) (inv:RowInv M R T) (hG:1≤G∧G≤1024) {gv cap b0:Nat} {P:Option Addr} (hv:w.cell? ⟨gv,0,none⟩=some (.pointer (some ⟨g,0,none⟩))) {L:List Int} (hL:∀ x ∈ L,lmHas M x=true) (hO:OwnI w b0 P cap L) (hp:∀ b,InB P b→¬ whF g bm A b) (hpv:¬ InB P gv) (hl:L.length≤1000000) :
  Calls Tryz.prog 233 #[.slice P L.length cap,Nv gv] w fun e w'=>e=.returned (.tuple #[])∧∃ S:List Int,S.Perm L∧S.Pairwise (leT G M)∧Reads w' w'.heap.size 1 P S.length (S.map (.int .i64))∧Chg (InB P) w w':=by
 by_cases h0:L.length=0
 ·
  obtain rfl:L=[]:=List.eq_nil_of_length_eq_zero h0
  refine (AnyF.slices_SortFunc_none (P:=Tryz.prog) (ρ:=Tryz.sortI_ren) { Tryz.sortI with } P cap (Nv gv) w).mono ?_
  rintro e w' ⟨rfl,rfl⟩
  exact ⟨rfl,[],List.Perm.refl _,List.Pairwise.nil,Reads.none_,Chg.refl _ _⟩
 ·
  obtain ⟨gp,cap',hfv,hgp,hgl⟩:=(show w.ownsRow b0 3 1 (.slice P L.length cap) L.length (L.flatMap icell) from hO).form (by omega)
  obtain ⟨rfl,rfl⟩:P=some ⟨gp,0,none⟩∧cap=cap':=by
   simp only [Value.slice.injEq] at hfv
   exact ⟨hfv.1,hfv.2.2⟩
  refine (wsort h inv hG hv hL hO (hp _ ⟨_,rfl,rfl⟩) (fun e=>hpv ⟨_,rfl,e⟩) (by omega) hl).mono ?_
  rintro e w' ⟨rfl,S,h1,h2,h3,h4⟩
  exact ⟨rfl,S,h1,h2,h3,h4.mono fun b _ e=>⟨_,rfl,e.symm⟩⟩
end
def wInv (G now:Int) (M:LM) (T:Nat→Int):Prop:=∀ id,lmHas M id=true→∃ e,T id.toNat=e % 64+1∧now / G≤e∧turnI G (lmGet M id)≤e∧(e=turnI G (lmGet M id)∨e=now / G)
def outL (G now:Int) (M:LM) (R:Nat→List Int) (nw:Int):Nat→List Int
 | 0=>[]
 | m+1=>outL G now M R nw m ++ comeL G M (R ((now / G+m) % 64).toNat) nw
def cntI (G now nw:Int):Nat:=(min (nw / G) (now / G+63) - now / G+1).toNat
theorem OQ {G t nw:Int} (hG:1≤G):t * G≤nw ↔ t≤nw / G:=(Int.le_ediv_iff_mul_le (by omega)).symm
theorem JJ {G:Int} {M:LM} {L:List Int} {nw x:Int}:x ∈ comeL G M L nw ↔ x ∈ L∧turnI G (lmGet M x) * G≤nw:=by
 unfold comeL
 rw [List.mem_filter,decide_eq_true_iff]
theorem Gn {G now:Int} {M:LM} {R:Nat→List Int} {nw x:Int}:∀ {m:Nat},x ∈ outL G now M R nw m ↔ ∃ i,i<m∧x ∈ R ((now / G+i) % 64).toNat∧turnI G (lmGet M x) * G≤nw
 | 0=>by
  unfold outL
  simp
 | m+1=>by
  unfold outL
  rw [List.mem_append,Gn (m:=m),JJ]
  constructor
  ·
   rintro (⟨i,hi,h⟩ | h)
   · exact ⟨i,by omega,h⟩
   · exact ⟨m,by omega,h⟩
  ·
   rintro ⟨i,hi,h⟩
   by_cases e:i=m
   ·
    subst e
    exact .inr h
   · exact .inl ⟨i,by omega,h⟩
theorem EZ {G now:Int} {M:LM} {R:Nat→List Int} {T:Nat→Int} (inv:RowInv M R T) (nw:Int):∀ m:Nat,m≤64→(outL G now M R nw m).Nodup
 | 0,_=>List.nodup_nil
 | m+1,hm=>by
  unfold outL
  rw [List.nodup_append]
  refine ⟨EZ inv nw m (by omega),(inv.nd _ (by omega)).filter _,fun a ha b hb e=>?_⟩
  subst e
  rw [JJ] at hb
  obtain ⟨i,hi,h1,-⟩:=Gn.1 ha
  have q1:=((inv.mem _ (by omega) a).1 h1).2
  have q2:=((inv.mem _ (by omega) a).1 hb.1).2
  omega
theorem OT {G now nw:Int} {M:LM} {R:Nat→List Int} {T:Nat→Int} (inv:RowInv M R T) (hw:wInv G now M T) (hG:1≤G) (h0:0≤now) (hn:now≤nw) (id:Int):id ∈ outL G now M R nw (cntI G now nw) ↔ lmHas M id=true∧turnI G (lmGet M id) * G≤nw:=by
 have hd0:0≤now / G:=Int.ediv_nonneg h0 (by omega)
 have hd1:now / G≤nw / G:=Int.ediv_le_ediv (by omega) hn
 rw [Gn]
 constructor
 ·
  rintro ⟨i,hi,h1,h2⟩
  exact ⟨((inv.mem _ (by omega) id).1 h1).1,h2⟩
 ·
  rintro ⟨h1,h2⟩
  obtain ⟨e,e1,e2,e3,e4⟩:=hw id h1
  have h3:=(OQ hG).1 h2
  have h4:e≤nw / G:=by rcases e4 with e4 | e4 <;> omega
  unfold cntI
  generalize now / G=f at *
  generalize nw / G=l at *
  refine ⟨((e - f) % 64).toNat,by omega,(inv.mem _ (by omega) id).2 ⟨h1,?_⟩,h2⟩
  rw [e1]
  omega
def Av (M:LM):List Int→LM
 | []=>M
 | x :: r=>Av (lmDel M x) r
theorem E1:∀ (S:List Int) (M:LM) (x:Int),Av M (S ++ [x])=lmDel (Av M S) x
 | [],_,_=>rfl
 | y :: r,M,x=>E1 r (lmDel M y) x
theorem M6 {M:LM} {S:List Int} {k:Nat} (hk:k<S.length):Av M (S.take (k+1))=lmDel (Av M (S.take k)) S[k]:=by
 rw [List.take_succ_eq_append_getElem hk,E1]
theorem BN {x:Int}:∀ (S:List Int) (M:LM),lmHas (Av M S) x=true ↔ lmHas M x=true∧x ∉ S
 | [],M=>by simp [Av]
 | y :: r,M=>by
  unfold Av
  rw [BN r,Cl,List.mem_cons]
  constructor
  ·
   rintro ⟨⟨a,b⟩,c⟩
   exact ⟨a,fun e=>by rcases e with e | e;exact b e;exact c e⟩
  ·
   rintro ⟨a,b⟩
   exact ⟨⟨a,fun e=>b (.inl e)⟩,fun e=>b (.inr e)⟩
theorem E8 {M:LM} {id x:Int} (h:x≠id):lmGet (lmDel M id) x=lmGet M x:=by
 unfold lmGet lmDel
 rw [List.find?_filter]
 congr 1
 congr 1
 funext p
 by_cases e:p.1=x
 ·
  have:¬ p.1=id:=fun e2=>h (e.symm.trans e2)
  simp [e,h]
 · simp [e]
theorem Ca {x:Int}:∀ (S:List Int) (M:LM),x ∉ S→lmGet (Av M S) x=lmGet M x
 | [],_,_=>rfl
 | y :: r,M,h=>by
  unfold Av
  rw [Ca r _ (fun e=>h (List.mem_cons_of_mem _ e)),E8 (fun e=>h (by rw [e];exact List.mem_cons_self ..))]
theorem M7 {id v x:Int} (h:x≠id):∀ (M:LM),lmGet (lmIns (id,v) M) x=lmGet M x
 | []=>by
  have h2:¬ id=x:=fun e=>h e.symm
  unfold lmIns lmGet
  simp [h2]
 | y :: r=>by
  have h2:¬ id=x:=fun e=>h e.symm
  have ih:=M7 (v:=v) h r
  unfold lmIns
  split
  ·
   unfold lmGet
   rw [List.find?_cons_of_neg (by simp [h2])]
  ·
   unfold lmGet at ih ⊢
   by_cases e:y.1=x
   · rw [List.find?_cons_of_pos (by simp [e]),List.find?_cons_of_pos (by simp [e])]
   ·
    rw [List.find?_cons_of_neg (by simp [e]),List.find?_cons_of_neg (by simp [e])]
    exact ih
theorem Gp {M:LM} {id v x:Int} (h:x≠id):lmGet (lmPut M id v) x=lmGet M x:=by
 unfold lmPut
 rw [M7 h,E8 h]
theorem wInv.put {G now:Int} {M:LM} {T T':Nat→Int} (h:wInv G now M T) {n:Nat} {due:Int} (hid:∀ x ∈ M,0≤x.1) (hT:T' n=rowI G now due+1) (ho:∀ j,j≠n→T' j=T j):wInv G now (lmPut M n due) T':=by
 intro id hh
 by_cases e:id=(n:Int)
 ·
  subst e
  rw [CB,Int.toNat_natCast,hT]
  unfold rowI
  exact ⟨_,rfl,by omega,by omega,by omega⟩
 ·
  unfold lmPut at hh
  rw [GG,Cl] at hh
  have h1:lmHas M id=true:=by
   rcases hh with hh | hh
   · exact absurd hh e
   · exact hh.1
  rw [Gp e,ho _ (fun e2=>e (by
   obtain ⟨x,hx,rfl⟩:=AZ.1 h1
   have:=hid x hx
   omega))]
  exact h id h1
theorem wInv.del {G now:Int} {M:LM} {T T':Nat→Int} (h:wInv G now M T) {n:Nat} (hid:∀ x ∈ M,0≤x.1) (ho:∀ j,j≠n→T' j=T j):wInv G now (lmDel M n) T':=by
 intro id hh
 rw [Cl] at hh
 rw [E8 hh.2,ho _ (fun e2=>hh.2 (by
  obtain ⟨x,hx,rfl⟩:=AZ.1 hh.1
  have:=hid x hx
  omega))]
 exact h id hh.1
theorem wInv.go {G now nw:Int} {M:LM} {T:Nat→Int} (h:wInv G now M T) (hG:1≤G) (hn:now≤nw) (hM:∀ id,lmHas M id=true→¬ turnI G (lmGet M id) * G≤nw):wInv G nw M T:=by
 intro id hh
 obtain ⟨e,e1,e2,e3,e4⟩:=h id hh
 have h1:=hM id hh
 rw [OQ hG] at h1
 have hd1:now / G≤nw / G:=Int.ediv_le_ediv (by omega) hn
 exact ⟨e,e1,by omega,e3,by omega⟩
theorem Nw {G:Int} {M:LM}:∀ (S D:List Int),S.Pairwise (leT G M)→D.Pairwise (leT G M)→S.Perm D→S=D
 | [],D,_,_,h=>(List.nil_perm.1 h).symm
 | x :: r,[],_,_,h=>by simpa using h.length_eq
 | x :: r,y :: q,hs,hd,h=>by
  rw [List.pairwise_cons] at hs hd
  have e:x=y:=by
   have h1:x ∈ y :: q:=h.mem_iff.1 (List.mem_cons_self ..)
   have h2:y ∈ x :: r:=h.mem_iff.2 (List.mem_cons_self ..)
   rcases List.mem_cons.1 h1 with e | h1
   · exact e
   rcases List.mem_cons.1 h2 with e | h2
   · exact e.symm
   have a:=hs.1 y h2
   have b:=hd.1 x h1
   unfold leT at a b
   omega
  subst e
  rw [Nw r q hs.2 hd.2 ((List.perm_cons _).1 h)]
section
variable {w:World} {base g bm:Nat} {G now:Int} {M:LM} {R:Nat→List Int} {A:Nat→Option Addr} {C:Nat→Nat} {T:Nat→Int} {Z:Array Value}
theorem M8 (h:WhAt w base g bm G now M R A C T Z) (hG:0<G) (nw:Int) (hb:nw<now∨1099511627776<nw):Calls Tryz.prog 171 #[.pointer (some ⟨g,0,none⟩),.int .i64 nw] w fun e w'=>e=.returned (.tuple #[.slice none 0 0,.int .i64 15])∧Below w.heap.size w w':=by
 have hw:=h.call (Aa (Below.refl w.heap.size w) (.cells #[.pointer (some ⟨g,0,none⟩)] 127))
 have GV:=Lib.hid (CU hw hG)
 have c1:=hw.cell hw.z1
 clear hw h
 by_cases h1:nw<now
 ·
  have d1:decide (nw<now)=true:=by simpa using h1
  clear hb
  go_enter Tryz.func171,Tryz.ntmps171
  go_wp2_with fail
  refine GV.out.mono ?_
  rintro e w1 ⟨rfl,rfl⟩
  go_wp2_with fail
  go_ret2
  exact ⟨rfl,Aa (Below.refl _ _) _⟩
 ·
  have d1:decide (nw<now)=false:=by simpa using h1
  have h2:1099511627776<nw:=by omega
  have d2:decide (1099511627776<nw)=true:=by simpa using h2
  clear hb
  go_enter Tryz.func171,Tryz.ntmps171
  go_wp2_with fail
  refine GV.out.mono ?_
  rintro e w1 ⟨rfl,rfl⟩
  go_wp2_with fail
  go_ret2
  exact ⟨rfl,Aa (Below.refl _ _) _⟩
end
theorem E9 {W:World} {ops:Array Oper} {rest:List Oper} {o:Oper} {a:Act} {Q:Exit→Act→World→Prop} (hgd:o.guard=none) (s x:Operand)
  (ho:o.op=.call { callee:=.builtin .append,args:=#[s,x],argTypes:=#[82,82] })
  (base:Nat) (A:Option Addr) (c:Nat) (l:List Int) (hs:a.eval s=.slice A l.length c) (hown:OwnI W base A c l) (A2:Option Addr) (c2:Nat) (l2:List Int)
  (hx:a.eval x=.slice A2 l2.length c2) (hr:Reads W W.heap.size 1 A2 l2.length (l2.map (.int .i64))) (hl:l.length+l2.length≤1000000) (hbase:base≤W.heap.size)
  (h:∀ A' c' w',OwnI w' base A' c' (l ++ l2)→Pushed W w' A A'→wpList Tryz.prog ops Q rest (a.put o.dst (.slice A' (l ++ l2).length c')) w'):wpList Tryz.prog ops Q (o :: rest) a W:=by
 obtain ⟨i0,hi0,hz0,hz1,hz2⟩:=info_parts E3
 refine Bq _ hgd s x 82 ho base 3 i0 _ 1 8 Tryz.underlying82 hi0 hz0 hz1 hz2 rfl (by decide) (.slice A l.length c) l.length (l.flatMap icell) hs hown W.heap.size A2 l2.length c2 (l2.map (.int .i64)) hx hr (fun u hu=>by
  obtain ⟨y,-,rfl⟩:=List.mem_map.1 hu
  rfl) (by unfold maxLen;omega) (by omega) hbase ?_
 intro A' c' w' hown' hg' hat
 have hA:∀ k,(Value.slice A l.length c).ownBlock=some k ↔ InB A k:=hown.own_block
 have hO:OwnI w' base A' c' (l ++ l2):=by
  unfold OwnI OwnA
  rw [List.length_append,List.flatMap_append,Dk l2]
  exact hown'
 rw [← List.length_append]
 refine h A' c' w' hO ⟨?_,?_⟩
 · exact (Chg.refl _ W).grown hg' (fun k hk _=>(hA k).1 hk)
 ·
  intro b hb
  have e1:(Value.slice A' (l.length+l2.length) c').ownBlock=some b:=by
   have:=(hO.own_block b).2 hb
   simpa [Value.ownBlock] using this
  rcases hat with h2 | h2
  ·
   rw [h2] at e1
   exact .inl ((hA b).1 e1)
  ·
   rw [h2] at e1
   simp at e1
   exact .inr (by omega)
theorem Rc {G now:Int} {M:LM} {R:Nat→List Int} {T:Nat→Int} (inv:RowInv M R T) (nw:Int) (m:Nat) (hm:m≤64):(outL G now M R nw m).length≤4096:=by
 refine CE 4096 _ (EZ inv nw m hm) fun x hx=>?_
 obtain ⟨i,hi,h1,-⟩:=Gn.1 hx
 have h2:=((inv.mem _ (by omega) x).1 h1).1
 have h3:=inv.idr _ (Dl h2)
 omega
section
variable {w:World} {base g bm:Nat} {G now:Int} {M:LM} {R:Nat→List Int} {A:Nat→Option Addr} {C:Nat→Nat} {T:Nat→Int} {Z:Array Value}
theorem WhAt.setNow (h:WhAt w base g bm G now M R A C T Z) (nw:Int):WhAt (w.setCell ⟨g,1,none⟩ (.int .i64 nw)) base g bm G nw M R A C T (Z.setIfInBounds 1 (.int .i64 nw)):=by
 have hc:Chg (·=g) w (w.setCell ⟨g,1,none⟩ (.int .i64 nw)):=Chg.setCell (F:=(·=g)) (p:=⟨g,1,none⟩) (Chg.refl _ _) (fun _=>rfl) _
 have hz:=h.size
 refine ⟨h.blk.set_ 1 _,by simp [hz],?_,?_,?_,fun k hk=>?_,fun k hk=>(h.own k hk).chg hc (fun b hb e=>(h.row_ne hk hb).1 e),h.apart,fun i hi=>?_,h.map.chg hc (fun e=>h.gm e.symm),h.gb,h.mb⟩
 ·
  rw [Array.getElem?_setIfInBounds_ne (by omega)]
  exact h.z0
 · rw [Array.getElem?_setIfInBounds_self_of_lt (by omega)]
 ·
  rw [Array.getElem?_setIfInBounds_ne (by omega)]
  exact h.z2
 ·
  rw [Array.getElem?_setIfInBounds_ne (by omega)]
  exact h.row k hk
 ·
  rw [Array.getElem?_setIfInBounds_ne (by omega)]
  exact h.at_ i hi
set_option maxRecDepth 100000 in
set_option maxHeartbeats 4000000 in
theorem Rd (h:WhAt w base g bm G now M R A C T Z) (inv:RowInv M R T) (hw:wInv G now M T) (hG:1≤G∧G≤1024) (hnow:0≤now) (nw:Int) (hn:now≤nw∧nw≤1099511627776) (_hbase:base≤w.heap.size) :
  Calls Tryz.prog 171 #[.pointer (some ⟨g,0,none⟩),.int .i64 nw] w fun e w'=>∃ (P:Option Addr) (c:Nat) (S:List Int) (R':Nat→List Int) (T':Nat→Int) (Z':Array Value),e=.returned (.tuple #[.slice P S.length c,.int .i64 0])∧S.Perm (outL G now M R nw (cntI G now nw))∧S.Pairwise (leT G M) ∧
   Reads w' w'.heap.size 1 P S.length (S.map (.int .i64))∧(∀ b,InB P b→w.heap.size≤b)∧WhAt w' base g bm G nw (Av M S) R' A C T' Z'∧RowInv (Av M S) R' T'∧wInv G nw (Av M S) T'∧Chg (whF g bm A) w w':=by
 obtain ⟨w0,hw0⟩:∃ w0,w0=w.alloc (.cells #[.pointer (some ⟨g,0,none⟩)] 127):=⟨_,rfl⟩
 have hb0:Below w.heap.size w w0:=hw0 ▸ Aa (Below.refl _ _) _
 have h0:=h.call hb0
 have hv0:w0.cell? ⟨w.heap.size,0,none⟩=some (.pointer (some ⟨g,0,none⟩)):=hw0 ▸ (Blk.new w 127 #[.pointer (some ⟨g,0,none⟩)]).cell 0
 have hz0:w0.heap.size=w.heap.size+1:=by rw [hw0];exact World.size_alloc _ _
 have GV:=Lib.hid (CU h0 (by omega))
 have c0:=h0.cell h0.z0
 have c1:=h0.cell h0.z1
 have hlt:=h.blk.lt
 have hd1:decide (nw<now)=false:=by simp;omega
 have hd2:decide (1099511627776<nw)=false:=by simp;omega
 have hzG:(G==0)=false:=by rw [beq_eq_false_iff_ne];omega
 have hf0:0≤now / G:=Int.ediv_nonneg hnow (by omega)
 have hf1:now / G≤nw / G:=Int.ediv_le_ediv (by omega) hn.1
 have hf2:nw / G≤nw:=Int.ediv_le_self _ (by omega)
 have ho_nd:=EZ (G:=G) (now:=now) inv nw (cntI G now nw) (by unfold cntI;omega)
 have ho_mem:=OT inv hw hG.1 hnow hn.1
 obtain ⟨cn,hcn⟩:∃ cn,cntI G now nw=cn:=⟨_,rfl⟩
 have hcn2:min (nw / G) (now / G+63) - now / G+1=(cn:Int):=by rw [← hcn];unfold cntI;omega
 rw [hcn] at ho_nd ho_mem ⊢
 have hOut:∀ j,outL G now M R nw (j+1)=outL G now M R nw j ++ comeL G M (R ((now / G+j) % 64).toNat) nw:=fun _=>rfl
 have hOl:=fun j (hj:j≤64)=>Rc (G:=G) (now:=now) inv nw j hj
 obtain ⟨O,hO⟩:∃ O,outL G now M R nw=O:=⟨_,rfl⟩
 have hO0:O 0=[]:=by rw [← hO];rfl
 rw [hO] at hOut hOl ho_nd ho_mem ⊢
 have hgf:1≤G:=hG.1
 replace hO:=Lib.hid hO
 replace hOut:=Lib.hid hOut
 replace hcn:=Lib.hid hcn
 replace ho_nd:=Lib.hid ho_nd
 replace ho_mem:=Lib.hid ho_mem
 replace inv:=Lib.hid inv
 replace hw:=Lib.hid hw
 replace h:=Lib.hid h
 replace h0:=Lib.hid h0
 generalize hgv:w.heap.size=gv at *
 go_enter Tryz.func171,Tryz.ntmps171
 go_wp2_with fail
 rw [← hw0]
 clear hw0
 refine GV.out.mono ?_
 rintro e w1 ⟨rfl,rfl⟩
 clear GV
 go_wp2_with fail
 go_quiet (fail)
 have hb1:Below gv w (w0.drewN nq):=Al hb0 nq
 have hv1:(w0.drewN nq).cell? ⟨gv,0,none⟩=some (.pointer (some ⟨g,0,none⟩)):=hv0
 have h1:=Lib.hid (h0.out.drewN nq)
 have hz1:(w0.drewN nq).heap.size=gv+1:=hz0
 clear hb0 hv0 c0 c1 h0 hz0
 generalize w0.drewN nq=w1 at *
 have hcn64:cn≤64:=by omega
 have hCM:=fun (W:World) (hb:Below w1.heap.size w1 W) (k:Nat) (hk:k<64)=>Nt (h1.out.call hb) inv.out hG k hk nw
 replace hG:=Lib.hid hG
 replace hCM:=Lib.hid hCM
 have hcl:∀ k:Nat,k<64→(comeL G M (R k) nw).length≤4096:=fun k hk=>Nat.le_trans (List.length_filter_le _ _) (inv.out.rlen hk)
 generalize now / G=f at *
 generalize nw / G=l at *
 go_wp2_with fail
 go_loopw [8,9] (fun ov ix wr=>∃ (j:Nat) (P:Option Addr) (p:Nat),j≤cn∧ix=.int .i64 (f+j)∧ov=.slice P (O j).length p∧OwnI wr (gv+1) P p (O j)∧Below w1.heap.size w1 wr) (fun _ ix _=>cn - (intOf ix - f).toNat)
 case atStart =>
  refine ⟨0,none,0,by omega,?_,by rw [hO0];rfl,by rw [hO0];exact OwnA.nil _ _,Below.refl _ _⟩
  simp
 case round =>
  obtain ⟨j,P,p,hj,rfl,rfl,hOo,hb⟩:=hrel
  have hzB:=hb.size
  by_cases hlt2:j<cn
  ·
   have hcmp:decide (f+(j:Int)≤min l (f+63))=true:=by simp;omega
   have hw64:∀ x:Int,-1≤x→x≤1099511627776+200→IntKind.i64.wrap x=x:=fun x h1 h2=>by
    simp [IntKind.wrap,IntKind.bits,IntKind.signed]
    omega
   obtain ⟨k,hk,hk64⟩:∃ k:Nat,(f+(j:Int)) % 64=(k:Int)∧k<64:=⟨((f+j) % 64).toNat,by omega,by omega⟩
   have CM:=hCM.out wr hb k hk64
   have hO1:=hOut.out j
   rw [hk,Int.toNat_natCast] at hO1
   have hol:=hOl j (by omega)
   have hcl1:=hcl k hk64
   generalize comeL G M (R k) nw=cl at *
   replace hO1:=Lib.hid hO1
   replace CM:=Lib.hid CM
   have hv2:=(hb.cell (p:=⟨gv,0,none⟩) (by show gv<w1.heap.size;omega)).trans hv1
   go_wp2_with fail
   refine CM.out.mono ?_
   rintro e w3 ⟨A3,c3,rfl,ho3,hb3⟩
   have hb4:=A8 hb3 hb
   have hO3:=hOo.call hb3
   have hz3:=hb3.size
   have hr3:=ho3.ints
   clear hOo CM ho3 hb3 hv2
   go_wp2_with (first | (at_builtin;(refine E9 rfl (.tmp 52) (.tmp 57) rfl (gv+1) P p (O j) rfl hO3 A3 c3 cl rfl hr3 (by omega) (by omega) ?_;intro P4 p4 w4 ho4 hp4)))
   have hb5:=hp4.below hb4 (by omega) (fun b hb=>by rw [hz1];exact (hO3.block hb).1)
   rw [← hO1.out] at ho4
   have hln:(O j).length+cl.length=(O (j+1)).length:=by rw [hO1.out,List.length_append]
   go_roundw
   case rel=>exact ⟨j+1,P4,p4,by omega,congrArg (Value.int .i64) (by omega),by rw [hln],ho4,hb5⟩
   case measure=>simp [intOf];omega
  ·
   obtain rfl:j=cn:=by omega
   have hWr:=h1.out.call hb
   have hv2:=(hb.cell (p:=⟨gv,0,none⟩) (by show gv<w1.heap.size;omega)).trans hv1
   have hPb:∀ b,InB P b→gv+1≤b:=fun b hb=>(hOo.block hb).1
   have hwF:∀ b,whF g bm A b→b<gv:=fun b hb=>by have:=(h.out.whF_lt hb).2;omega
   have SO:=PZ hWr inv.out hG.out hv2 (fun x hx=>((ho_mem.out x).1 hx).1) hOo (fun b hb hF=>by have:=hPb b hb;have:=hwF b hF;omega) (fun hb=>by have:=hPb _ hb;omega) (by have:=hOl j (by omega);omega)
   have hbw:Below gv w wr:=hb1.trans (hb.mono (by omega))
   replace SO:=Lib.hid SO
   replace hWr:=Lib.hid hWr
   clear hv1 h1 hCM hOut hb hb1
   go_wp2_with fail
   refine SO.out.mono ?_
   rintro e w4 ⟨rfl,S,hS1,hS2,hS3,hS4⟩
   have h4:=hWr.out.chg hS4 (fun b hb hF=>by have:=hPb b hb;have:=hwF b hF;omega)
   have hv4:=(Af hS4 (A0 hv2) (fun e=>by have:gv+1≤gv:=hPb _ e;omega)).trans hv2
   have hSl:=hS1.length_eq
   have hSb:S.length≤4096:=by rw [hSl];exact hOl j (by omega)
   have hSm:∀ x,x ∈ S ↔ lmHas M x=true∧turnI G (lmGet M x) * G≤nw:=fun x=>hS1.mem_iff.trans (ho_mem.out x)
   have hbw4:Below gv w w4:=Ar hbw hS4 (fun b hb e=>by have:=hPb b e;omega) (by omega)
   have hSn:S.Nodup:=hS1.nodup_iff.2 ho_nd.out
   clear SO hv2 hbw
   replace hS1:=Lib.hid hS1
   replace hS2:=Lib.hid hS2
   replace hSm:=Lib.hid hSm
   replace hSn:=Lib.hid hSn
   replace h4:=Lib.hid h4
   go_wp2_with fail
   go_loopw [64] (fun ix wx=>∃ (k:Nat) (R2:Nat→List Int) (T2:Nat→Int) (Z2:Array Value),k≤S.length∧ix=.int .i64 (k:Nat)∧WhAt wx base g bm G now (Av M (S.take k)) R2 A C T2 Z2∧RowInv (Av M (S.take k)) R2 T2∧(∀ n:Nat,(n:Int) ∉ S.take k→T2 n=T n)∧Chg (whF g bm A) w4 wx) (fun ix _=>S.length - (intOf ix).toNat)
   case atStart=>exact ⟨0,R,T,Z,by omega,rfl,h4.out,inv.out,fun _ _=>rfl,Chg.refl _ _⟩
   case round =>
    obtain ⟨k,R2,T2,Z2,hk,rfl,h5,inv5,hT5,hc5⟩:=hrel
    have hv5:=(Af hc5 (A0 hv4) (fun e=>by have:gv<gv:=hwF _ e;omega)).trans hv4
    by_cases hk2:k<S.length
    ·
     have hki:(k:Int)<((O j).length:Int):=by omega
     obtain ⟨ad,hA,hbl,cx⟩:=(hS3.chg hc5 (fun ad hA hF=>by have:=hPb _ ⟨ad,hA,rfl⟩;have:=hwF _ hF;omega)).int_at hk2
     subst hA
     have hxm:S[k] ∈ S:=List.getElem_mem hk2
     have hx1:=((hSm.out _).1 hxm).1
     have hx2:=inv.out.idr _ (Dl hx1)
     have hdt:=M6 (M:=M) hk2
     have htk:=List.take_succ_eq_append_getElem hk2
     rw [show S.getD k 0=S[k] by simp [hk2]] at cx
     obtain ⟨n,hn⟩:∃ n:Nat,S[k]=(n:Int):=⟨S[k].toNat,by omega⟩
     rw [hn] at cx hdt htk hx2
     have UN:=D5 h5 inv5 (by omega) n (by omega)
     rw [← hdt] at UN
     replace UN:=Lib.hid UN
     replace hdt:=Lib.hid hdt
     replace htk:=Lib.hid htk
     replace h5:=Lib.hid h5
     replace inv5:=Lib.hid inv5
     replace hT5:=Lib.hid hT5
     clear hx1 hxm hn
     go_wp2_with fail
     refine UN.out.mono ?_
     rintro e w6 ⟨rfl,R6,T6,Z6,h6,inv6,ht6,-,hc6⟩
     go_wp2_with fail
     go_roundw
     case rel =>
      refine ⟨k+1,R6,T6,Z6,by omega,by go_num,h6,inv6,fun m hm=>?_,hc5.trans hc6 (fun _ _ h=>h)⟩
      rw [htk.out,List.mem_append,List.mem_singleton] at hm
      rw [ht6 m (fun e=>hm (.inr (by rw [e]))),hT5.out m (fun e=>hm (.inl e))]
     case measure=>simp [intOf];omega
    ·
     obtain rfl:k=S.length:=by omega
     have hki:¬ (S.length:Int)<((O j).length:Int):=by omega
     rw [List.take_length] at h5 inv5 hT5
     have hR5:=hS3.chg hc5 (fun ad hA hF=>by have:=hPb _ ⟨ad,hA,rfl⟩;have:=hwF _ hF;omega)
     have cg:=h5.cell h5.z1
     have fg:=h5.blk.frozen 1
     have hgm:=h5.blk.lt
     replace hT5:=Lib.hid hT5
     replace h5:=Lib.hid h5
     replace inv5:=Lib.hid inv5
     go_wp2_with fail
     have hcs:Chg (·=g) wr (wr.setCell ⟨g,1,none⟩ (.int .i64 nw)):=Chg.setCell (F:=(·=g)) (p:=⟨g,1,none⟩) (Chg.refl _ _) (fun _=>rfl) _
     have hwd:wInv G now (Av M S) T2:=by
      intro id hh
      rw [BN] at hh
      have:=inv.out.idr _ (Dl hh.1)
      obtain ⟨e,e1,e2,e3,e4⟩:=hw.out id hh.1
      rw [Ca S M hh.2,hT5.out id.toNat (by rw [show ((id.toNat:Nat):Int)=id by omega];exact hh.2)]
      exact ⟨e,e1,e2,e3,e4⟩
     have hwg:=hwd.go hgf hn.1 (fun id hh=>by
      rw [BN] at hh
      rw [Ca S M hh.2]
      exact fun hc=>hh.2 ((hSm.out id).2 ⟨hh.1,hc⟩))
     have hbx:Chg (whF g bm A) w wr:=(Chg.of_below (hgv ▸ hbw4)).trans hc5 (fun _ _ h=>h)
     have hby:Chg (whF g bm A) w (wr.setCell ⟨g,1,none⟩ (.int .i64 nw)):=Chg.setCell hbx (fun _=>.inl rfl) _
     have hRz:=hR5.chg hcs (fun ad hA e=>by have:=hPb _ ⟨ad,hA,rfl⟩;have:ad.block=g:=e;omega)
     have hNow:=h5.out.setNow nw
     generalize wr.setCell ⟨g,1,none⟩ (.int .i64 nw)=wz at *
     have hPb2:∀ b,InB P b→gv≤b:=fun b hb=>by have:=hPb b hb;omega
     replace hPb2:=Lib.hid hPb2
     replace hRz:=Lib.hid hRz
     replace hNow:=Lib.hid hNow
     replace hwg:=Lib.hid hwg
     replace hby:=Lib.hid hby
     go_ret2
     exact ⟨P,p,S,by rw [hSl];rfl,hS1.out,hS2.out,hRz.out,hPb2.out,R2,T2,⟨_,hNow.out⟩,inv5.out,hwg.out,hby.out⟩
end
structure RWhAt (w:World) (g:Nat) (G now:Int) (M:LM) (A:Option Addr) (c:Nat) (B:Option Addr) (d:Nat):Prop where
 blk:Blk w g 196 #[.int .i64 G,.int .i64 now,.slice A M.length c,.slice B M.length d]
 two:Two w 0 A c (pre2 M) B d (post2 M)
 ga:¬ InB A g
 gb:¬ InB B g
def rwF (g:Nat) (A B:Option Addr) (b:Nat):Prop:=b=g∨InB A b∨InB B b
section
variable {w w':World} {g:Nat} {G now:Int} {M:LM} {A:Option Addr} {c:Nat} {B:Option Addr} {d:Nat}
theorem Two.chg {base:Nat} {L K:List Int} {F:Nat→Prop} (h:Two w base A c L B d K) (k:Chg F w w') (hF:∀ b,InB A b∨InB B b→¬ F b):Two w' base A c L B d K :=
 ⟨h.fst.chg k (fun b hb=>hF b (.inl hb)),h.snd.chg k (fun b hb=>hF b (.inr hb)),h.apart⟩
theorem Two.base {base base':Nat} {L K:List Int} (h:Two w base A c L B d K) (hb:base'≤base):Two w base' A c L B d K:=by
 have f:∀ {A:Option Addr} {c:Nat} {L:List Int},OwnI w base A c L→OwnI w base' A c L:=fun h=>by
  unfold OwnI OwnA at h ⊢
  refine ⟨h.1,?_⟩
  rcases h.2 with h0 | ⟨g,cap,cur,h1,hg,r⟩
  · exact .inl h0
  · exact .inr ⟨g,cap,cur,h1,by omega,r⟩
 exact ⟨f h.fst,f h.snd,h.apart⟩
theorem RWhAt.chg {F:Nat→Prop} (h:RWhAt w g G now M A c B d) (k:Chg F w w') (hF:∀ b,rwF g A B b→¬ F b):RWhAt w' g G now M A c B d :=
 ⟨h.blk.chg k (hF _ (.inl rfl)),h.two.chg k (fun b hb=>hF b (.inr hb)),h.ga,h.gb⟩
theorem RWhAt.call (h:RWhAt w g G now M A c B d) (hb:Below w.heap.size w w'):RWhAt w' g G now M A c B d :=
 h.chg (F:=fun _=>False) (Chg.of_below hb) (fun _ _ h=>h)
theorem RWhAt.lt (h:RWhAt w g G now M A c B d) {b:Nat} (hb:rwF g A B b):b<w.heap.size:=by
 rcases hb with rfl | hb | hb
 · exact h.blk.lt
 · exact (h.two.fst.block hb).2
 · exact (h.two.snd.block hb).2
theorem RWhAt.cells (h:RWhAt w g G now M A c B d):w.cell? ⟨g,0,none⟩=some (.int .i64 G)∧w.cell? ⟨g,1,none⟩=some (.int .i64 now)∧w.cell? ⟨g,2,none⟩=some (.slice A M.length c)∧w.cell? ⟨g,3,none⟩=some (.slice B M.length d) :=
 ⟨h.blk.cell 0,h.blk.cell 1,h.blk.cell 2,h.blk.cell 3⟩
theorem Ba {b:Nat}:¬ InB none b:=fun hb=>by
 obtain ⟨a,ha,_⟩:=hb
 cases ha
theorem GH (G:Int) (w:World) (h:G<1∨1024<G):Calls Tryz.prog 73 #[.int .i64 G] w fun e w'=>e=.returned (.pointer none)∧w=w':=by
 by_cases h1:G<1
 ·
  have d1:decide (G<1)=true:=by simpa using h1
  clear h
  go_enter Tryz.func73,Tryz.ntmps73
  go_wp2_with fail
  go_ret
  exact ⟨rfl,rfl⟩
 ·
  have d1:decide (G<1)=false:=by simpa using h1
  have d2:decide (1024<G)=true:=by simp;omega
  clear h
  go_enter Tryz.func73,Tryz.ntmps73
  go_wp2_with fail
  go_ret
  exact ⟨rfl,rfl⟩
theorem Gq (G:Int) (w:World) (h:1≤G∧G≤1024):Calls Tryz.prog 73 #[.int .i64 G] w fun e w'=>e=.returned (.pointer (some ⟨w.heap.size,0,none⟩))∧RWhAt w' w.heap.size G 0 [] none 0 none 0∧Below w.heap.size w w':=by
 have d1:decide (G<1)=false:=by simp;omega
 have d2:decide (1024<G)=false:=by simp;omega
 clear h
 go_enter Tryz.func73,Tryz.ntmps73
 go_wp2_with fail
 go_ret
 exact ⟨rfl,⟨Blk.new _ _ _,⟨OwnA.nil _ _,OwnA.nil _ _,fun b hb=>absurd hb Ba⟩,Ba,Ba⟩,Aa (Below.refl _ _) _⟩
theorem Fh (h:RWhAt w g G now M A c B d) (hG:1≤G∧G≤1024) (due:Int) (hd:0≤due∧due≤2199023255552):Calls Tryz.prog 238 #[.pointer (some ⟨g,0,none⟩),.int .i64 due] w fun e w'=>e=.returned (.int .i64 (turnI G due))∧∃ n,w'=w.drewN n:=by
 have c0:=h.cells.1
 have hq:(due+G - 1) / G=turnI G due:=rfl
 have hz:(G==0)=false:=by rw [beq_eq_false_iff_ne];omega
 generalize turnI G due=r at *
 replace hq:=Lib.hid hq
 clear h
 go_enter Tryz.func238,Tryz.ntmps238
 go_wp2_with fail
 go_quiet (fail)
 go_wp2_with fail
 go_ret
 exact ⟨by rw [← hq.out];rfl,_,rfl⟩
theorem Dv {X Y:Addr} {u v:Value} (h1:RWhAt w g G now M A c B d) (hb:Below w.heap.size w w') (hc:w.cell? X=some u) (hd:w.cell? Y=some v) :
  w'.cell? ⟨g,2,none⟩=some (.slice A M.length c)∧w'.cell? ⟨g,3,none⟩=some (.slice B M.length d)∧w'.cell? X=some u∧w'.cell? Y=some v :=
 ⟨(h1.call hb).cells.2.2.1,(h1.call hb).cells.2.2.2,(hb.cell (A0 hc)).trans hc,(hb.cell (A0 hd)).trans hd⟩
theorem Nx {id:Int} {k:Nat} (hk:k<M.length):lmDel (M.take (k+1)) id=if M[k].1=id then lmDel (M.take k) id else lmDel (M.take k) id ++ [M[k]]:=by
 unfold lmDel
 rw [List.take_succ_eq_append_getElem hk,List.filter_append]
 by_cases e:M[k].1=id
 ·
  rw [if_pos e,List.filter_cons_of_neg (by simpa using e)]
  simp
 ·
  rw [if_neg e,List.filter_cons_of_pos (by simpa using e)]
  simp
theorem Ny {id:Int} {k:Nat} (hk:k<M.length):lmHas (M.take (k+1)) id=(lmHas (M.take k) id || (M[k].1==id)):=by
 unfold lmHas
 rw [List.take_succ_eq_append_getElem hk,List.any_append]
 simp
theorem rw_at (h:RWhAt w g G now M A c B d) {k:Nat} (hk:k<M.length):∃ a1 a2,A=some a1∧B=some a2∧w.cell? (a1.add k)=some (.int .i64 M[k].1)∧w.cell? (a2.add k)=some (.int .i64 M[k].2):=by
 obtain ⟨a1,h1,-,h2⟩:=(h.two.fst.ints).int_at (i:=k) (by rw [AU];exact hk)
 obtain ⟨a2,h3,-,h4⟩:=(h.two.snd.ints).int_at (i:=k) (by rw [AH];exact hk)
 refine ⟨a1,a2,h1,h3,?_,?_⟩
 ·
  rw [h2]
  simp [pre2,hk]
 ·
  rw [h4]
  simp [post2,hk]
end
section
variable {w w':World} {g:Nat} {G now:Int} {M:LM} {A:Option Addr} {c:Nat} {B:Option Addr} {d:Nat}
set_option maxRecDepth 100000 in
set_option maxHeartbeats 4000000 in
theorem Dw (h:RWhAt w g G now M A c B d) (hl:M.length≤100000) (id:Int):Calls Tryz.prog 223 #[.pointer (some ⟨g,0,none⟩),.int .i64 id] w fun e w'=>e=.returned (.bool (lmHas M id)) ∧
  ∃ A' c' B' d',RWhAt w' g G now (lmDel M id) A' c' B' d'∧(∀ b,InB A' b∨InB B' b→w.heap.size≤b)∧Chg (·=g) w w':=by
 have hglt:=h.blk.lt
 replace h:=Lib.hid h
 go_enter Tryz.func223,Tryz.ntmps223
 go_wp2_with fail
 go_loopw [5,6,7,8] (fun s t dn i wr=>∃ (k:Nat) (P:Option Addr) (p:Nat) (Q:Option Addr) (q:Nat),k≤M.length∧i=.int .i64 (k:Nat)∧s=.slice P (lmDel (M.take k) id).length p∧t=.slice Q (lmDel (M.take k) id).length q∧dn=.bool (lmHas (M.take k) id)∧Two wr w.heap.size P p (pre2 (lmDel (M.take k) id)) Q q (post2 (lmDel (M.take k) id))∧Below w.heap.size w wr) (fun _ _ _ i _=>M.length - (intOf i).toNat)
 case atStart=>exact ⟨0,none,0,none,0,by omega,rfl,rfl,rfl,rfl,⟨OwnA.nil _ _,OwnA.nil _ _,fun b hb=>absurd hb Ba⟩,Below.refl _ _⟩
 case round =>
  obtain ⟨k,P,p,Q,q,hk,rfl,rfl,rfl,rfl,hT,hb⟩:=hrel
  have hR:=h.out.call hb
  obtain ⟨c0,c1,c2,c3⟩:=hR.cells
  have hz:=hb.size
  have hol:(lmDel (M.take k) id).length≤100000:=Nat.le_trans (Cr _ _) (by rw [List.length_take];omega)
  by_cases hlt:k<M.length
  ·
   have hlti:(k:Int)<(M.length:Int):=by omega
   obtain ⟨ad,ae,hA,hB,hc0,hd0⟩:=rw_at h.out hlt
   subst hA hB
   have hst:=Ny (M:=M) (id:=id) hlt
   have hst2:=Nx (M:=M) (id:=id) hlt
   obtain ⟨x,hx⟩:∃ x,M[k]=x:=⟨_,rfl⟩
   rw [hx] at hc0 hd0 hst hst2
   obtain ⟨-,-,hc,hd⟩:=Dv h.out hb hc0 hd0
   generalize lmDel (M.take k) id=out at *
   generalize lmHas (M.take k) id=bo at *
   clear hx hR
   replace hc0:=Lib.hid hc0
   replace hd0:=Lib.hid hd0
   by_cases he:x.1=id
   ·
    have heb:(x.1==id)=true:=by simpa using he
    rw [if_pos he] at hst2
    rw [heb,Bool.or_true] at hst
    replace hst:=Lib.hid hst
    replace hst2:=Lib.hid hst2
    replace he:=Lib.hid he
    go_wp2_with fail
    go_roundw
    case rel=>exact ⟨k+1,P,p,Q,q,by omega,by go_num,by rw [hst2.out],by rw [hst2.out],by rw [hst.out],by rw [hst2.out];exact hT,hb⟩
    case measure=>simp [intOf];omega
   ·
    have heb:(x.1==id)=false:=by simpa using he
    rw [if_neg he] at hst2
    rw [heb,Bool.or_false] at hst
    replace hst:=Lib.hid hst
    replace hst2:=Lib.hid hst2
    replace he:=Lib.hid he
    go_wp2_with (first
     | (at_builtin;(refine Ap rfl (.tmp 27) (.tmp 35) rfl w.heap.size P p (pre2 out) (out.length) (by simp [AU]) rfl hT.fst _ rfl rfl (by simp [AU];omega) (by omega) ?_;intro P3 p3 w3 ho3 hp3;have hT3:=hT.push1 ho3 hp3;have hb3:=hp3.below hb (by omega) (fun b hb=>(hT.fst.block hb).1);have hz3:=hb3.size;clear c0 c1 c2 c3 hc hd;obtain ⟨c2,c3,hc,hd⟩:=Dv h.out hb3 hc0.out hd0.out))
     | (at_builtin;(refine Ap rfl (.tmp 37) (.tmp 45) rfl w.heap.size Q q (post2 out) (out.length) (by simp [AH]) rfl hT3.snd _ rfl rfl (by simp [AH];omega) (by omega) ?_;intro P4 p4 w4 ho4 hp4;have hT4:=hT3.push2 ho4 hp4;have hb4:=hp4.below hb3 (by omega) (fun b hb=>(hT3.snd.block hb).1);have hz4:=hb4.size;clear c2 c3 hc hd;obtain ⟨c2,c3,hc,hd⟩:=Dv h.out hb4 hc0.out hd0.out)))
    go_roundw
    case rel=>exact ⟨k+1,P3,p3,P4,p4,by omega,by go_num,by rw [hst2.out];simp,by rw [hst2.out];simp,by rw [hst.out],by rw [hst2.out,Cj,BZ];exact hT4,hb4⟩
    case measure=>simp [intOf];omega
  ·
   obtain rfl:k=M.length:=by omega
   have hlti:¬ (M.length:Int)<(M.length:Int):=by omega
   rw [List.take_length] at hT ⊢
   have q2:=hR.blk.frozen 2
   have q3:=hR.blk.frozen 3
   have hB:=hR.blk
   replace hB:=Lib.hid hB
   replace hR:=Lib.hid hR
   go_wp2_with fail
   have hP:¬ InB P g:=fun h=>by have:=(hT.fst.block h).1;omega
   have hQ:¬ InB Q g:=fun h=>by have:=(hT.snd.block h).1;omega
   have hN:RWhAt ((wr.setCell ⟨g,2,none⟩ (.slice P (lmDel M id).length p)).setCell ⟨g,3,none⟩ (.slice Q (lmDel M id).length q)) g G now (lmDel M id) P p Q q :=
    ⟨by simpa using (hB.out.set_ 2 (.slice P (lmDel M id).length p)).set_ 3 (.slice Q (lmDel M id).length q),⟨(hT.base (Nat.zero_le _)).fst.far (p:=⟨g,2,none⟩) hP _ |>.far (p:=⟨g,3,none⟩) hP _,(hT.base (Nat.zero_le _)).snd.far (p:=⟨g,2,none⟩) hQ _ |>.far (p:=⟨g,3,none⟩) hQ _,hT.apart⟩,hP,hQ⟩
   have hC:Chg (·=g) w ((wr.setCell ⟨g,2,none⟩ (.slice P (lmDel M id).length p)).setCell ⟨g,3,none⟩ (.slice Q (lmDel M id).length q)):=Chg.setCell (F:=(·=g)) (p:=⟨g,3,none⟩) (Chg.setCell (F:=(·=g)) (p:=⟨g,2,none⟩) (Chg.of_below hb) (fun _=>rfl) _) (fun _=>rfl) _
   have hnb:∀ b,InB P b∨InB Q b→w.heap.size≤b:=fun b hb=>by
    rcases hb with hb | hb
    · exact (hT.fst.block hb).1
    · exact (hT.snd.block hb).1
   replace hN:=Lib.hid hN
   replace hC:=Lib.hid hC
   replace hnb:=Lib.hid hnb
   go_ret
   exact ⟨rfl,P,p,Q,⟨q,hN.out⟩,hnb.out,hC.out⟩
end
set_option maxRecDepth 100000 in
theorem EJ (A:Option Addr) (n c k:Nat) (hk:k≤n) (hc:n≤c):∃ A2 c2,(∀ W,(Instr.slice 82 (.slice A n c) (some (.int .i64 (k:Int))) none none).run Tryz.prog W=.ok (.slice A2 (n - k) c2) W)∧∀ (W:World) (B:Nat) (xs:List Value),Reads W B 1 A n xs→Reads W B 1 A2 (n - k) (xs.drop k):=by
 refine ⟨if c=k then A else A.map (·.add (k * 1)),c - k,fun W=>?_,fun W B xs h=>?_⟩
 ·
  rw [run_slice_l _ _ _ _ _ (by kernel_rfl) .i64 (k:Int) (by omega) (by omega)]
  have:(sizeOf (Tryz.prog.elem 82)).run Tryz.prog W=.ok 1 W:=by
   first | rfl | exact Tryz.sizeOf3 W | simp [go_sem]
  rw [this]
  simp [Result.andThen,sliced]
 ·
  have:=h.cut (k:=k) hk hc
  simpa using this
theorem OU {w:World} {base c:Nat} {A:Option Addr} {l:List Int} (h:OwnI w base A c l):l.length≤c:=by
 rcases h.2 with ⟨h2,h3⟩ | ⟨g',cap',cur,hv,hb,hh,hc,hm,hs,hx⟩
 ·
  simp only [Value.slice.injEq] at h2
  omega
 ·
  simp only [Value.slice.injEq] at hv
  rw [hv.2.2]
  exact hc
theorem M9 {id due:Int}:∀ (M:LM) (k:Nat),k≤M.length→(∀ j (_:j<k) (h:j<M.length),M[j].1<id)→(∀ h:k<M.length,id<M[k].1)→lmIns (id,due) M=M.take k ++ (id,due) :: M.drop k
 | [],0,_,_,_=>rfl
 | [],k+1,h,_,_=>absurd h (by simp)
 | y :: r,0,_,_,h=>by
  have h3:id<y.1:=h (by simp)
  unfold lmIns
  rw [if_pos (show (id,due).1<y.1 from h3)]
  rfl
 | y :: r,k+1,hk,h1,h2=>by
  have h3:y.1<id:=h1 0 (by omega) (by simp)
  unfold lmIns
  rw [if_neg (by show ¬ id<y.1;omega),M9 r k (by simpa using hk) (fun j hj h=>h1 (j+1) (by omega) (by simpa using h)) (fun h=>h2 (by simpa using h))]
  rfl
section
variable {w w':World} {g:Nat} {G now:Int} {M:LM} {A:Option Addr} {c:Nat} {B:Option Addr} {d:Nat}
theorem Two.app1 {base:Nat} {L L' K:List Int} {A':Option Addr} {c':Nat} (h:Two w base A c L B d K) (ho:OwnI w' base A' c' L') (hp:Pushed w w' A A'):Two w' base A' c' L' B d K :=
 ⟨ho,h.snd.chg hp.chg (fun b hb hA=>h.apart b hA hb),fun b hA' hB=>(hp.new b hA').elim (fun hA=>h.apart b hA hB) (fun hn=>by have:=(h.snd.block hB).2;omega)⟩
theorem Two.app2 {base:Nat} {L K K':List Int} {B':Option Addr} {d':Nat} (h:Two w base A c L B d K) (ho:OwnI w' base B' d' K') (hp:Pushed w w' B B'):Two w' base A c L B' d' K' :=
 ⟨h.fst.chg hp.chg (fun b hb hB=>h.apart b hb hB),ho,fun b hA hB'=>(hp.new b hB').elim (fun hB=>h.apart b hA hB) (fun hn=>by have:=(h.fst.block hA).2;omega)⟩
theorem Two.off {base:Nat} {L K:List Int} (h:Two w base A c L B d K) {q:Addr} (hq:q.block<base) (u:Value):Two (w.setCell q u) base A c L B d K :=
 ⟨h.fst.far (fun hi=>by have:=(h.fst.block hi).1;omega) u,h.snd.far (fun hi=>by have:=(h.snd.block hi).1;omega) u,h.apart⟩
theorem DL {W:World} {ops:Array Oper} {rest:List Oper} {o:Oper} {a:Act} {Q:Exit→Act→World→Prop} (hgd:o.guard=none) (s x:Operand)
  (ho:o.op=.call { callee:=.builtin .append,args:=#[s,x],argTypes:=#[82,82] })
  (base:Nat) (A:Option Addr) (c:Nat) (l:List Int) (n:Nat) (hn:l.length=n) (hs:a.eval s=.slice A n c) (hown:OwnI W base A c l) (A2:Option Addr) (c2:Nat) (l2:List Int) (m:Nat) (hm:l2.length=m)
  (hx:a.eval x=.slice A2 m c2) (hr:Reads W W.heap.size 1 A2 m (l2.map (.int .i64))) (hl:n+m≤1000000) (hbase:base≤W.heap.size)
  (h:∀ A' c' w',OwnI w' base A' c' (l ++ l2)→Pushed W w' A A'→wpList Tryz.prog ops Q rest (a.put o.dst (.slice A' (n+m) c')) w'):wpList Tryz.prog ops Q (o :: rest) a W:=by
 subst hn hm
 refine E9 hgd s x ho base A c l hs hown A2 c2 l2 hx hr hl hbase fun A' c' w' h1 h2=>?_
 rw [List.length_append]
 exact h A' c' w' h1 h2
set_option maxRecDepth 100000 in
set_option maxHeartbeats 8000000 in
theorem Kr (h:RWhAt w g G now M A c B d) (hl:M.length≤100000) (n:Nat) (hn:n<4096) (due:Int) (hd:0≤due∧due≤2199023255552):Calls Tryz.prog 156 #[.pointer (some ⟨g,0,none⟩),.int .i64 (n:Int),.int .i64 due] w fun e w'=>e=.returned (.bool true) ∧
  ∃ A' c' B' d',RWhAt w' g G now (lmPut M n due) A' c' B' d'∧(∀ b,InB A' b∨InB B' b→w.heap.size≤b)∧Chg (·=g) w w':=by
 have UN:=Lib.hid (Dw h hl n)
 have d1:decide ((n:Int)<0)=false:=by simp
 have d2:decide (4095<(n:Int))=false:=by simp;omega
 have d3:decide (due<0)=false:=by simp;omega
 have d4:decide (2199023255552<due)=false:=by simp;omega
 clear h
 go_enter Tryz.func156,Tryz.ntmps156
 go_wp2_with fail
 refine UN.out.mono ?_
 rintro e w1 ⟨rfl,A1,c1,B1,d1',h1,hnb1,hc1⟩
 have hz1:=hc1.size
 have hM1:(lmDel M n).length≤100000:=Nat.le_trans (Cr _ _) hl
 have hnid:∀ x ∈ lmDel M n,x.1≠(n:Int):=fun x hx=>by simpa using (List.mem_filter.1 hx).2
 have hput:lmIns ((n:Int),due) (lmDel M n)=lmPut M n due:=rfl
 generalize lmDel M n=M1 at *
 generalize hMP:lmPut M n due=MP at *
 replace hMP:=Lib.hid hMP
 generalize lmHas M n=bo at *
 replace hput:=Lib.hid hput
 replace hnb1:=Lib.hid hnb1
 replace hc1:=Lib.hid hc1
 have hglt:=h1.blk.lt
 have hcA:M1.length≤c1:=by have:=OU h1.two.fst;rwa [AU] at this
 have hcB:M1.length≤d1':=by have:=OU h1.two.snd;rwa [AH] at this
 replace h1:=Lib.hid h1
 replace hnid:=Lib.hid hnid
 clear UN
 go_wp2_with fail
 go_loopw [7,8,9] (fun s t i wr=>∃ (k:Nat) (P:Option Addr) (p:Nat) (Q:Option Addr) (q:Nat),k≤M1.length∧i=.int .i64 (k:Nat)∧s=.slice P k p∧t=.slice Q k q∧Two wr w1.heap.size P p (pre2 (M1.take k)) Q q (post2 (M1.take k))∧Below w1.heap.size w1 wr∧∀ j (hj:j<k) (h:j<M1.length),M1[j].1<(n:Int)) (fun _ _ i _=>M1.length - (intOf i).toNat)
 case atStart=>exact ⟨0,none,0,none,0,by omega,rfl,rfl,rfl,⟨OwnA.nil _ _,OwnA.nil _ _,fun b hb=>absurd hb Ba⟩,Below.refl _ _,fun j hj=>absurd hj (by omega)⟩
 case round =>
  obtain ⟨k,P,p,Q,q,hk,rfl,rfl,rfl,hT,hb,hall⟩:=hrel
  have hR:=h1.out.call hb
  obtain ⟨c0,-,c2,c3⟩:=hR.cells
  have hz:=hb.size
  have hlk:(M1.take k).length=k:=by rw [List.length_take];omega
  replace hall:=Lib.hid hall
  by_cases hs:∃ hlt:k<M1.length,M1[k].1<(n:Int)
  ·
   obtain ⟨hlt,hs⟩:=hs
   have hlti:(k:Int)<(M1.length:Int):=by omega
   obtain ⟨ad,ae,hA,hB,hc0,hd0⟩:=rw_at h1.out hlt
   subst hA hB
   have hst:M1.take (k+1)=M1.take k ++ [M1[k]]:=List.take_succ_eq_append_getElem hlt
   obtain ⟨x,hx⟩:∃ x,M1[k]=x:=⟨_,rfl⟩
   rw [hx] at hc0 hd0 hst hs
   obtain ⟨-,-,hc,hd⟩:=Dv h1.out hb hc0 hd0
   have hs1:decide (x.1<(n:Int))=true:=by simpa using hs
   generalize M1.take k=out at *
   clear hR c0
   replace hx:=Lib.hid hx
   replace hst:=Lib.hid hst
   replace hc0:=Lib.hid hc0
   replace hd0:=Lib.hid hd0
   replace hs:=Lib.hid hs
   go_wp2_with (first
    | (at_builtin;(refine Ap rfl (.tmp 47) (.tmp 55) rfl w1.heap.size P p (pre2 out) k (by rw [AU];exact hlk) rfl hT.fst _ rfl rfl (by rw [AU];omega) (by omega) ?_;intro P3 p3 w3 ho3 hp3;have hT3:=hT.push1 ho3 hp3;have hb3:=hp3.below hb (by omega) (fun b hb=>(hT.fst.block hb).1);have hz3:=hb3.size;clear c2 c3 hc hd;obtain ⟨c2,c3,hc,hd⟩:=Dv h1.out hb3 hc0.out hd0.out))
    | (at_builtin;(refine Ap rfl (.tmp 57) (.tmp 65) rfl w1.heap.size Q q (post2 out) k (by rw [AH];exact hlk) rfl hT3.snd _ rfl rfl (by rw [AH];omega) (by omega) ?_;intro P4 p4 w4 ho4 hp4;have hT4:=hT3.push2 ho4 hp4;have hb4:=hp4.below hb3 (by omega) (fun b hb=>(hT3.snd.block hb).1);have hz4:=hb4.size;clear c2 c3 hc hd;obtain ⟨c2,c3,hc,hd⟩:=Dv h1.out hb4 hc0.out hd0.out)))
   go_roundw
   case rel=>exact ⟨k+1,P3,p3,P4,p4,by omega,by go_num,rfl,rfl,by rw [hst.out,Cj,BZ];exact hT4,hb4,fun j hj hj2=>by
    by_cases e:j=k
    ·
     subst e
     rw [hx.out]
     exact hs.out
    · exact hall.out j (by omega) hj2⟩
   case measure=>simp [intOf];omega
  ·
   have hins:lmIns ((n:Int),due) M1=M1.take k ++ ((n:Int),due) :: M1.drop k:=M9 M1 k hk hall.out (fun hlt=>by
    have h2:=hnid.out M1[k] (List.getElem_mem hlt)
    have h3:¬ M1[k].1<(n:Int):=fun h=>hs ⟨hlt,h⟩
    omega)
   rw [hput.out] at hins
   obtain ⟨A2,c2',hsA,hrA⟩:=EJ A1 M1.length c1 k hk hcA
   obtain ⟨B2,d2',hsB,hrB⟩:=EJ B1 M1.length d1' k hk hcB
   have hRA:∀ W,Chg (·=g) w1 W→Reads W W.heap.size 1 A2 (M1.length - k) ((pre2 (M1.drop k)).map (.int .i64)):=fun W hc=>by
    have h5:=(h1.out.two.fst.chg hc (fun b hb e=>h1.out.ga (by have e2:b=g:=e;rwa [e2] at hb))).ints
    rw [AU] at h5
    have:=hrA _ _ _ h5
    rw [show ((pre2 M1).map (Value.int .i64)).drop k=(pre2 (M1.drop k)).map (Value.int .i64) by simp [pre2,List.map_drop]] at this
    exact this
   have hRB:∀ W,Chg (·=g) w1 W→Reads W W.heap.size 1 B2 (M1.length - k) ((post2 (M1.drop k)).map (.int .i64)):=fun W hc=>by
    have h5:=(h1.out.two.snd.chg hc (fun b hb e=>h1.out.gb (by have e2:b=g:=e;rwa [e2] at hb))).ints
    rw [AH] at h5
    have:=hrB _ _ _ h5
    rw [show ((post2 M1).map (Value.int .i64)).drop k=(post2 (M1.drop k)).map (Value.int .i64) by simp [post2,List.map_drop]] at this
    exact this
   have hdl:(M1.drop k).length=M1.length - k:=List.length_drop ..
   have hMl:MP.length=k+1+(M1.length - k):=by
    rw [hins,List.length_append,List.length_cons,hlk,hdl]
    omega
   have hMp:pre2 MP=pre2 (M1.take k) ++ [(n:Int)] ++ pre2 (M1.drop k):=by rw [hins];simp [pre2]
   have hMq:post2 MP=post2 (M1.take k) ++ [due] ++ post2 (M1.drop k):=by rw [hins];simp [post2]
   replace hRA:=Lib.hid hRA
   replace hRB:=Lib.hid hRB
   replace hMl:=Lib.hid hMl
   replace hMp:=Lib.hid hMp
   replace hMq:=Lib.hid hMq
   have hki:(k:Int)≤(M1.length:Int):=by omega
   have q2:=fun W (hb:Below w1.heap.size w1 W)=>(h1.out.call hb).blk.frozen 2
   replace q2:=Lib.hid q2
   clear hrA hrB hins c0 hR
   by_cases hlt:k<M1.length
   case' pos =>
    have hlti:(k:Int)<(M1.length:Int):=by omega
    obtain ⟨ad,ae,hA,hB,hc0,hd0⟩:=rw_at h1.out hlt
    have hs1:decide (M1[k].1<(n:Int))=false:=by simp;exact Int.not_lt.1 (fun h=>hs ⟨hlt,h⟩)
    subst hA hB
    obtain ⟨-,-,hc,hd⟩:=Dv h1.out hb hc0 hd0
    generalize M1[k]=x at *
   case' neg =>
    have hlti:¬ (k:Int)<(M1.length:Int):=by omega
   all_goals
    generalize M1.take k=out at *
    replace hs:=Lib.hid hs
    go_upto_region 13 with (first
     | (at_builtin;(refine Ap rfl (.tmp 67) (.tmp 69) rfl w1.heap.size P p (pre2 out) k (by rw [AU];exact hlk) rfl hT.fst _ rfl rfl (by rw [AU];omega) (by omega) ?_;intro P3 p3 w3 ho3 hp3;have hT3:=hT.push1 ho3 hp3;have hb3:=hp3.below hb (by omega) (fun b hb=>(hT.fst.block hb).1);have hz3:=hb3.size;clear c2 c3;have c2:=(h1.out.call hb3).cells.2.2.1;have c3:=(h1.out.call hb3).cells.2.2.2))
     | (at_builtin;(refine Ap rfl (.tmp 71) (.tmp 73) rfl w1.heap.size Q q (post2 out) k (by rw [AH];exact hlk) rfl hT3.snd _ rfl rfl (by rw [AH];omega) (by omega) ?_;intro P4 p4 w4 ho4 hp4;have hT4:=hT3.push2 ho4 hp4;have hb4:=hp4.below hb3 (by omega) (fun b hb=>(hT3.snd.block hb).1);have hz4:=hb4.size;clear c2 c3;have c2:=(h1.out.call hb4).cells.2.2.1;have c3:=(h1.out.call hb4).cells.2.2.2))
     | (at_builtin;(refine DL rfl (.tmp 76) (.tmp 82) rfl w1.heap.size P3 p3 (pre2 out ++ [(n:Int)]) (k+1) (by rw [List.length_append,AU,hlk];rfl) rfl hT4.fst A2 c2' (pre2 (M1.drop k)) (M1.length - k) (by rw [AU];exact hdl) rfl (hRA.out _ (Chg.of_below hb4)) (by omega) (by omega) ?_;intro P5 p5 w5 ho5 hp5;have hT5:=hT4.app1 ho5 hp5;have hb5:=hp5.below hb4 (by omega) (fun b hb=>(hT4.fst.block hb).1);have hz5:=hb5.size;have f5:=q2.out _ hb5;clear c2 c3;have c2:=(h1.out.call hb5).cells.2.2.1;have c3:=(h1.out.call hb5).cells.2.2.2)))
    obtain ⟨sl,hsl⟩:∃ sl,Value.slice P5 (k+1+(M1.length - k)) p5=sl:=⟨_,rfl⟩
    rw [hsl]
    have hB5:=(h1.out.call hb5).blk
    have hB6:=hB5.set_ 2 sl
    have hc6:Chg (·=g) w1 (w5.setCell ⟨g,2,none⟩ sl):=Chg.setCell (F:=(·=g)) (p:=⟨g,2,none⟩) (Chg.of_below hb5) (fun _=>rfl) _
    have hT6:=hT5.off (q:=⟨g,2,none⟩) hglt sl
    clear hB5 c2 c3 f5 ho5 hp5 hT5 hb5 hz5
    generalize w5.setCell ⟨g,2,none⟩ sl=w6 at *
    have c3:=hB6.cell 3
    have f3:=hB6.frozen 3
    simp at c3
    have hz6:=hc6.size
    have hg7:¬ InB P4 g:=fun hi=>by have:=(hT6.snd.block hi).1;omega
    replace hsl:=Lib.hid hsl
    go_wp2_with (first
     | (at_builtin;(refine DL rfl (.tmp 87) (.tmp 93) rfl w1.heap.size P4 p4 (post2 out ++ [due]) (k+1) (by rw [List.length_append,AH,hlk];rfl) rfl hT6.snd B2 d2' (post2 (M1.drop k)) (M1.length - k) (by rw [AH];exact hdl) rfl (hRB.out _ hc6) (by omega) (by omega) ?_;intro P7 p7 w7 ho7 hp7;have hT7:=hT6.app2 ho7 hp7;have hB7:=hB6.chg hp7.chg hg7;clear c3 f3;have c3:=hB7.cell 3;have f3:=hB7.frozen 3;simp at c3)))
    have hc7:Chg (·=g) w1 w7:=hc6.trans hp7.chg (fun b hb hF=>absurd (hT6.snd.block hF).1 (by omega))
    have hN:RWhAt (w7.setCell ⟨g,3,none⟩ (.slice P7 (k+1+(M1.length - k)) p7)) g G now MP P5 p5 P7 p7:=by
     refine ⟨?_,?_,fun hi=>by have:=(hT7.fst.block hi).1;omega,fun hi=>by have:=(hT7.snd.block hi).1;omega⟩
     ·
      have:=hB7.set_ 3 (.slice P7 (k+1+(M1.length - k)) p7)
      rw [hMl.out]
      rw [← hsl.out] at this
      simpa using this
     ·
      rw [hMp.out,hMq.out]
      exact (hT7.off (q:=⟨g,3,none⟩) hglt _).base (Nat.zero_le _)
    have hC:Chg (·=g) w (w7.setCell ⟨g,3,none⟩ (.slice P7 (k+1+(M1.length - k)) p7)):=Chg.setCell (F:=(·=g)) (p:=⟨g,3,none⟩) (hc1.out.trans hc7 (fun _ _ h=>h)) (fun _=>rfl) _
    have hnb:∀ b,InB P5 b∨InB P7 b→w.heap.size≤b:=fun b hb=>by
     rcases hb with hb | hb
     · have:=(hT7.fst.block hb).1;omega
     · have:=(hT7.snd.block hb).1;omega
    replace hN:=Lib.hid hN
    replace hC:=Lib.hid hC
    replace hnb:=Lib.hid hnb
    go_ret
    have hN2:RWhAt (w7.setCell ⟨g,3,none⟩ (.slice P7 (k+1+(M1.length - k)) p7)) g G now (lmPut M n due) P5 p5 P7 p7:=by rw [hMP.out];exact hN.out
    first | exact ⟨rfl,P5,p5,P7,⟨p7,hN2⟩,hnb.out,hC.out⟩ | exact ⟨rfl,P5,p5,P7,p7,hN2,hnb.out,hC.out⟩
end
abbrev mAt (M:LM) (k:Nat):Int × Int:=M.getD k (0,0)
def bestK (G nw:Int) (M:LM):Nat→Option Nat
 | 0=>none
 | k+1=>if turnI G (mAt M k).2 * G≤nw∧(∀ b,bestK G nw M k=some b→turnI G (mAt M k).2<turnI G (mAt M b).2) then some k else bestK G nw M k
theorem FA {G nw:Int} {M:LM}:∀ {k:Nat},bestK G nw M k=none→∀ j,j<k→¬ turnI G (mAt M j).2 * G≤nw
 | 0,_,j,hj=>absurd hj (by omega)
 | k+1,h,j,hj=>by
  unfold bestK at h
  split at h
  · cases h
  ·
   rename_i hc
   by_cases e:j=k
   ·
    subst e
    intro hle
    exact hc ⟨hle,fun b hb=>by rw [h] at hb;cases hb⟩
   · exact FA h j (by omega)
theorem Dx {G nw:Int} {M:LM}:∀ {k b:Nat},bestK G nw M k=some b→b<k∧turnI G (mAt M b).2 * G≤nw∧∀ j,j<k→turnI G (mAt M j).2 * G≤nw→turnI G (mAt M b).2<turnI G (mAt M j).2∨turnI G (mAt M b).2=turnI G (mAt M j).2∧b≤j
 | 0,_,h=>by cases h
 | k+1,b,h=>by
  unfold bestK at h
  split at h
  ·
   rename_i hc
   cases h
   refine ⟨by omega,hc.1,fun j hj hle=>?_⟩
   by_cases e:j=k
   ·
    subst e
    exact .inr ⟨rfl,Nat.le_refl _⟩
   ·
    cases hb:bestK G nw M k with
    | none=>exact absurd hle (FA hb j (by omega))
    | some b' =>
     have h1:=hc.2 b' hb
     have h2:=(Dx hb).2.2 j (by omega) hle
     left
     omega
  ·
   rename_i hc
   obtain ⟨h1,h2,h3⟩:=Dx h
   refine ⟨by omega,h2,fun j hj hle=>?_⟩
   by_cases e:j=k
   ·
    subst e
    by_cases hlt:turnI G (mAt M j).2<turnI G (mAt M b).2
    · exact absurd ⟨hle,fun b' hb'=>by rw [h] at hb';cases hb';exact hlt⟩ hc
    · omega
   · exact h3 j (by omega) hle
theorem Ks {M:LM} (hs:AA M) {k:Nat} (hk:k<M.length):lmGet M (mAt M k).1=(mAt M k).2:=by
 refine JG (k:=k) (fun j hj e=>?_) hk rfl
 have:=(List.pairwise_iff_getElem.1 hs) j k (by omega) hk hj
 simp [mAt,List.getD_eq_getElem?_getD,hk,show j<M.length by omega] at e
 omega
theorem OV {M:LM} {k:Nat} (hk:k<M.length):lmHas M (mAt M k).1=true:=by
 refine AZ.2 ⟨M[k],List.getElem_mem hk,?_⟩
 simp [mAt,List.getD_eq_getElem?_getD,hk]
theorem Re {M:LM} {x:Int} (h:lmHas M x=true):∃ k,k<M.length∧(mAt M k).1=x:=by
 obtain ⟨y,hy,rfl⟩:=AZ.1 h
 obtain ⟨k,hk,rfl⟩:=List.getElem_of_mem hy
 exact ⟨k,hk,by simp [mAt,List.getD_eq_getElem?_getD,hk]⟩
theorem CJ:∀ (D:List Int) {M:LM},AA M→AA (Av M D)
 | [],_,h=>h
 | x :: r,_,h=>CJ r (Dg h x)
theorem Ii:∀ (D:List Int) (M:LM),(Av M D).length≤M.length
 | [],_=>Nat.le_refl _
 | x :: r,M=>Nat.le_trans (Ii r _) (Cr M x)
theorem Hg (D:List Int) (M:LM) (x:Int):Av M (D ++ [x])=lmDel (Av M D) x:=E1 D M x
theorem Jb {M:LM} {x:Int} (h:lmHas M x=true):(lmDel M x).length<M.length:=by
 unfold lmDel
 obtain ⟨y,hy,rfl⟩:=AZ.1 h
 rw [List.length_filter_lt_length_iff_exists]
 exact ⟨y,hy,by simp⟩
structure GoI (G nw:Int) (M:LM) (D:List Int):Prop where
 sub:∀ x ∈ D,lmHas M x=true∧turnI G (lmGet M x) * G≤nw
 nd:D.Nodup
 pw:D.Pairwise (leT G M)
 low:∀ x ∈ D,∀ y,lmHas (Av M D) y=true→turnI G (lmGet M y) * G≤nw→leT G M x y
theorem GoI.nil (G nw:Int) (M:LM):GoI G nw M []:=⟨fun _ h=>by simp at h,List.nodup_nil,List.Pairwise.nil,fun _ h=>by simp at h⟩
theorem GoI.step {G nw:Int} {M:LM} {D:List Int} (h:GoI G nw M D) (hs:AA M) {b:Nat} (hb:bestK G nw (Av M D) (Av M D).length=some b):GoI G nw M (D ++ [(mAt (Av M D) b).1]):=by
 obtain ⟨h1,h2,h3⟩:=Dx hb
 have hs2:=CJ D hs
 have hm:=OV h1
 have hg:=Ks hs2 h1
 have hm2:=(BN D M).1 hm
 have hg2:=Ca D M hm2.2
 have hle:turnI G (lmGet M (mAt (Av M D) b).1) * G≤nw:=by
  rw [← hg2,hg]
  exact h2
 have hlow:∀ y,lmHas (Av M D) y=true→turnI G (lmGet M y) * G≤nw→leT G M (mAt (Av M D) b).1 y:=by
  intro y hy hyle
  obtain ⟨j,hj,rfl⟩:=Re hy
  have hy2:=(BN D M).1 hy
  have e2:=Ca D M hy2.2
  have e3:=Ks hs2 hj
  have h4:=h3 j hj (by rw [← e3,e2];exact hyle)
  unfold leT
  rw [← hg2,hg,← e2,e3]
  rcases h4 with h4 | ⟨h4,h5⟩
  · exact .inl h4
  ·
   right
   refine ⟨h4,?_⟩
   by_cases e:b=j
   ·
    rw [e]
    exact Int.le_refl _
   ·
    have:=(List.pairwise_iff_getElem.1 hs2) b j h1 hj (by omega)
    simp [mAt,List.getD_eq_getElem?_getD,h1,hj]
    omega
 generalize (mAt (Av M D) b).1=x at *
 refine ⟨fun y hy=>?_,?_,?_,fun y hy z hz hzl=>?_⟩
 ·
  rcases List.mem_append.1 hy with hy | hy
  · exact h.sub y hy
  ·
   rw [List.mem_singleton] at hy
   subst hy
   exact ⟨hm2.1,hle⟩
 ·
  rw [List.nodup_append]
  exact ⟨h.nd,by simp,fun a ha c hc e=>by
   rw [List.mem_singleton] at hc
   subst hc e
   exact hm2.2 ha⟩
 ·
  rw [List.pairwise_append]
  exact ⟨h.pw,by simp,fun a ha c hc=>by
   rw [List.mem_singleton] at hc
   subst hc
   exact h.low a ha c hm hle⟩
 ·
  rw [Hg,Cl] at hz
  rcases List.mem_append.1 hy with hy | hy
  · exact h.low y hy z hz.1 hzl
  ·
   rw [List.mem_singleton] at hy
   subst hy
   exact hlow z hz.1 hzl
theorem GoI.done {G nw:Int} {M:LM} {D S:List Int} (h:GoI G nw M D) (hs:AA M) (hb:bestK G nw (Av M D) (Av M D).length=none) (hS:∀ x,x ∈ S ↔ lmHas M x=true∧turnI G (lmGet M x) * G≤nw) (hn:S.Nodup) (hp:S.Pairwise (leT G M)):S=D:=by
 refine Nw S D hp h.pw ((List.perm_ext_iff_of_nodup hn h.nd).2 fun x=>?_)
 rw [hS]
 refine ⟨fun ⟨h1,h2⟩=>?_,h.sub x⟩
 by_cases hx:x ∈ D
 · exact hx
 exfalso
 have h3:lmHas (Av M D) x=true:=(BN D M).2 ⟨h1,hx⟩
 obtain ⟨j,hj,rfl⟩:=Re h3
 have e2:=Ca D M hx
 have e3:=Ks (CJ D hs) hj
 exact FA hb j hj (by rw [← e3,e2];exact h2)
section
variable {w w':World} {g:Nat} {G now:Int} {M:LM} {A:Option Addr} {c:Nat} {B:Option Addr} {d:Nat}
theorem Ij (h:RWhAt w g G now M A c B d) (nw:Int) (hb:nw<now∨1099511627776<nw):Calls Tryz.prog 172 #[.pointer (some ⟨g,0,none⟩),.int .i64 nw] w fun e w'=>e=.returned (.tuple #[.slice none 0 0,.int .i64 15])∧w=w':=by
 obtain ⟨-,c1,-,-⟩:=h.cells
 clear h
 by_cases h1:nw<now
 ·
  have d1:decide (nw<now)=true:=by simpa using h1
  clear hb
  go_enter Tryz.func172,Tryz.ntmps172
  go_wp2_with fail
  go_ret2
  exact ⟨rfl,rfl⟩
 ·
  have d1:decide (nw<now)=false:=by simpa using h1
  have h2:1099511627776<nw:=by omega
  have d2:decide (1099511627776<nw)=true:=by simpa using h2
  clear hb
  go_enter Tryz.func172,Tryz.ntmps172
  go_wp2_with fail
  go_ret2
  exact ⟨rfl,rfl⟩
theorem RWhAt.setNow (h:RWhAt w g G now M A c B d) (nw:Int):RWhAt (w.setCell ⟨g,1,none⟩ (.int .i64 nw)) g G nw M A c B d:=by
 have hc:Chg (·=g) w (w.setCell ⟨g,1,none⟩ (.int .i64 nw)):=Chg.setCell (F:=(·=g)) (p:=⟨g,1,none⟩) (Chg.refl _ _) (fun _=>rfl) _
 refine ⟨by simpa using h.blk.set_ 1 (.int .i64 nw),h.two.chg hc (fun b hb e=>?_),h.ga,h.gb⟩
 have e2:b=g:=e
 subst e2
 exact hb.elim h.ga h.gb
theorem RWhAt.drewN (h:RWhAt w g G now M A c B d) (n:Nat):RWhAt (w.drewN n) g G now M A c B d:=h.call (Al (Below.refl _ _) n)
def bestV:Option Nat→Value
 | none=>.int .i64 (-1)
 | some b=>.int .i64 (b:Int)
def slLen:Value→Nat
 | .slice _ n _=>n
 | _=>0
theorem FB {x:Int × Int}:∀ (D:List Int) {M:LM},x ∈ Av M D→x ∈ M
 | [],_,h=>h
 | _ :: r,_,h=>(List.mem_filter.1 (FB r h)).1
theorem Nz {G nw:Int} {M:LM} {k:Nat} {t:Int} (ht:turnI G (mAt M k).2=t) (h:¬ (t * G≤nw∧∀ b,bestK G nw M k=some b→t<turnI G (mAt M b).2)):bestK G nw M (k+1)=bestK G nw M k:=by
 rw [show bestK G nw M (k+1)=if turnI G (mAt M k).2 * G≤nw∧(∀ b,bestK G nw M k=some b→turnI G (mAt M k).2<turnI G (mAt M b).2) then some k else bestK G nw M k from rfl,ht,if_neg h]
theorem NA {G nw:Int} {M:LM} {k:Nat} {t:Int} (ht:turnI G (mAt M k).2=t) (h:t * G≤nw∧∀ b,bestK G nw M k=some b→t<turnI G (mAt M b).2):bestK G nw M (k+1)=some k:=by
 rw [show bestK G nw M (k+1)=if turnI G (mAt M k).2 * G≤nw∧(∀ b,bestK G nw M k=some b→turnI G (mAt M k).2<turnI G (mAt M b).2) then some k else bestK G nw M k from rfl,ht,if_pos h]
set_option maxRecDepth 100000 in
set_option maxHeartbeats 8000000 in
theorem Ma (h:RWhAt w g G now M A c B d) (hs:AA M) (hid:∀ x ∈ M,0≤x.2∧x.2≤2199023255552) (hl:M.length≤100000) (hG:1≤G∧G≤1024) (nw:Int) (hn:now≤nw∧nw≤1099511627776) :
  Calls Tryz.prog 172 #[.pointer (some ⟨g,0,none⟩),.int .i64 nw] w fun e w'=>∃ (P:Option Addr) (p:Nat) (D:List Int) (A':Option Addr) (c':Nat) (B':Option Addr) (d':Nat),e=.returned (.tuple #[.slice P D.length p,.int .i64 0])∧OwnI w' w.heap.size P p D∧GoI G nw M D∧bestK G nw (Av M D) (Av M D).length=none∧RWhAt w' g G nw (Av M D) A' c' B' d'∧(∀ b,InB A' b∨InB B' b→w.heap.size≤b∨InB A b∨InB B b)∧Chg (·=g) w w'∧∀ b,InB P b→¬ rwF g A' B' b:=by
 obtain ⟨-,c1,-,-⟩:=h.cells
 have f1:=h.blk.frozen 1
 have d1:decide (nw<now)=false:=by simp;omega
 have d2:decide (1099511627776<nw)=false:=by simp;omega
 have hglt:=h.blk.lt
 replace h:=Lib.hid h
 replace hs:=Lib.hid hs
 go_enter Tryz.func172,Tryz.ntmps172
 go_upto_region 4 with fail
 have h1:=h.out.setNow nw
 have hc1:Chg (·=g) w (w.setCell ⟨g,1,none⟩ (.int .i64 nw)):=Chg.setCell (F:=(·=g)) (p:=⟨g,1,none⟩) (Chg.refl _ _) (fun _=>rfl) _
 have hgaA:=h.out
 generalize w.setCell ⟨g,1,none⟩ (.int .i64 nw)=w1 at *
 clear c1 f1
 have hz1:=hc1.size
 replace h1:=Lib.hid h1
 replace hc1:=Lib.hid hc1
 replace hgaA:=Lib.hid hgaA
 go_wp2_with fail
 go_loopw [6] (fun sv wr=>∃ (D:List Int) (P:Option Addr) (p:Nat) (A':Option Addr) (c':Nat) (B':Option Addr) (d':Nat),sv=.slice P D.length p∧OwnI wr w.heap.size P p D∧GoI G nw M D∧D.length+(Av M D).length≤M.length∧RWhAt wr g G nw (Av M D) A' c' B' d'∧(∀ b,InB A' b∨InB B' b→w.heap.size≤b∨InB A b∨InB B b)∧(∀ b,InB P b→¬ rwF g A' B' b)∧Chg (·=g) w wr) (fun sv _=>M.length - slLen sv)
 case atStart=>exact ⟨[],none,0,A,c,B,d,rfl,OwnA.nil _ _,GoI.nil _ _ _,by simp [Av],h1.out,fun b hb=>.inr hb,fun b hb=>absurd hb Ba,hc1.out⟩
 case round =>
  obtain ⟨D,P,p,A2,c2,B2,d2',rfl,hO,hI,hlen,hR,hnb,hap,hc⟩:=hrel
  go_wp2_with fail
  have hM2:∀ x ∈ Av M D,0≤x.2∧x.2≤2199023255552:=fun x hx=>hid x (FB D hx)
  obtain ⟨M2,hM2e⟩:∃ M2,Av M D=M2:=⟨_,rfl⟩
  rw [hM2e] at hM2 hlen hR
  replace hM2e:=Lib.hid hM2e
  replace hI:=Lib.hid hI
  obtain ⟨wo,rfl⟩:∃ wo,wo=wr:=⟨wr,rfl⟩
  go_loopw [7,8] (fun bv iv wx=>∃ k:Nat,k≤M2.length∧iv=.int .i64 (k:Nat)∧bv=bestV (bestK G nw M2 k)∧∃ q,wx=wo.drewN q) (fun _ iv _=>M2.length - (intOf iv).toNat)
  case atStart=>exact ⟨0,by omega,rfl,rfl,0,rfl⟩
  case round =>
   obtain ⟨k,hk,rfl,rfl,q,hwx⟩:=hrel
   have hRx:RWhAt wr g G nw M2 A2 c2 B2 d2':=hwx ▸ hR.drewN q
   obtain ⟨x0,x1,x2,x3⟩:=hRx.cells
   replace hwx:=Lib.hid hwx
   by_cases hlt:k<M2.length
   ·
    have hlti:(k:Int)<(M2.length:Int):=by omega
    obtain ⟨ad,ae,hA,hB,hc0,hd0⟩:=rw_at hRx hlt
    have hx:=hM2 _ (List.getElem_mem hlt)
    have hmA:(mAt M2 k).2=M2[k].2:=by simp [mAt,List.getD_eq_getElem?_getD,hlt]
    obtain ⟨dk,hdk⟩:∃ dk,M2[k].2=dk:=⟨_,rfl⟩
    rw [hdk] at hx hd0 hmA
    have TU:=fun n=>Fh (hRx.drewN n) hG dk hx
    have hrg:=M5 (G:=G) hG hx
    have hsk:=fun h=>Nz (G:=G) (nw:=nw) (M:=M2) (k:=k) (t:=turnI G dk) (by rw [hmA]) h
    have htk:=fun h=>NA (G:=G) (nw:=nw) (M:=M2) (k:=k) (t:=turnI G dk) (by rw [hmA]) h
    obtain ⟨rfl,rfl⟩:A2=some ad∧B2=some ae:=⟨hA,hB⟩
    generalize turnI G dk=t at *
    have hw1:IntKind.i64.wrap (t * G)=t * G:=by
     generalize t * G=z at *
     simp [IntKind.wrap,IntKind.bits,IntKind.signed]
     omega
    replace TU:=Lib.hid TU
    replace hsk:=Lib.hid hsk
    replace htk:=Lib.hid htk
    clear hA hB hmA hdk hc0
    by_cases e:t * G≤nw
    ·
     have de:decide (t * G≤nw)=true:=by simpa using e
     cases hbk:bestK G nw M2 k with
     | none =>
      have hbv:bestV (none:Option Nat)=.int .i64 (-1):=rfl
      have hst:=htk.out ⟨e,fun b hb=>by rw [hbk] at hb;cases hb⟩
      rw [hbv]
      replace hst:=Lib.hid hst
      replace e:=Lib.hid e
      replace hbk:=Lib.hid hbk
      go_upto_region 9 with fail
      go_quiet ((go_at_call 238;with_reducible exact Calls.quiet_of (TU.out _)))
      go_wp2_with fail
      go_roundw
      case rel=>exact ⟨k+1,by omega,by go_num,by rw [hst.out];rfl,q+nq,by rw [hwx.out,World.drewN_drewN]⟩
      case measure=>simp [intOf];omega
     | some b =>
      have hbv:bestV (some b)=.int .i64 (b:Int):=rfl
      obtain ⟨hb1,hb2,-⟩:=Dx hbk
      have hblt:b<M2.length:=by omega
      obtain ⟨ad',ae',hA,hB,hcb,hdb⟩:=rw_at hRx hblt
      obtain rfl:ad=ad':=by simpa using hA
      obtain rfl:ae=ae':=by simpa using hB
      have hxb:=hM2 _ (List.getElem_mem hblt)
      have hmB:(mAt M2 b).2=M2[b].2:=by simp [mAt,List.getD_eq_getElem?_getD,hblt]
      obtain ⟨db,hdbe⟩:∃ db,M2[b].2=db:=⟨_,rfl⟩
      rw [hdbe] at hxb hdb hmB
      have TB:=fun n=>Fh (hRx.drewN n) hG db hxb
      have hbi:decide ((b:Int)<0)=false:=by simp
      have hbl:(b:Int)<(M2.length:Int):=by omega
      have hlt2:t<turnI G db→bestK G nw M2 (k+1)=some k:=fun h=>htk.out ⟨e,fun b' hb'=>by rw [hbk] at hb';cases hb';rw [hmB];exact h⟩
      have hge2:¬ t<turnI G db→bestK G nw M2 (k+1)=some b:=fun h=>(hsk.out (fun h'=>h (by have:=h'.2 b hbk;rwa [hmB] at this))).trans hbk
      generalize turnI G db=tb at *
      rw [hbv]
      replace TB:=Lib.hid TB
      replace hlt2:=Lib.hid hlt2
      replace hge2:=Lib.hid hge2
      replace e:=Lib.hid e
      replace hbk:=Lib.hid hbk
      clear hA hB hcb hmB hdbe hb2
      by_cases hcmp:t<tb
      ·
       have dc:decide (t<tb)=true:=by simpa using hcmp
       have hst:=Lib.hid (hlt2.out hcmp)
       replace hcmp:=Lib.hid hcmp
       go_upto_region 9 with fail
       go_quiet (first
        | (go_at_call 238;with_reducible exact Calls.quiet_of (TU.out _))
        | (go_at_call 238;with_reducible exact Calls.quiet_of (TB.out _)))
       go_wp2_with fail
       go_roundw
       case rel=>exact ⟨k+1,by omega,by go_num,by rw [hst.out];rfl,q+nq,by rw [hwx.out,World.drewN_drewN]⟩
       case measure=>simp [intOf];omega
      ·
       have dc:decide (t<tb)=false:=by simpa using hcmp
       have hst:=Lib.hid (hge2.out hcmp)
       replace hcmp:=Lib.hid hcmp
       go_upto_region 9 with fail
       go_quiet (first
        | (go_at_call 238;with_reducible exact Calls.quiet_of (TU.out _))
        | (go_at_call 238;with_reducible exact Calls.quiet_of (TB.out _)))
       go_wp2_with fail
       go_roundw
       case rel=>exact ⟨k+1,by omega,by go_num,by rw [hst.out];rfl,q+nq,by rw [hwx.out,World.drewN_drewN]⟩
       case measure=>simp [intOf];omega
    ·
     have de:decide (t * G≤nw)=false:=by simpa using e
     have hst:=hsk.out (fun h=>e h.1)
     generalize bestK G nw M2 k=bk at *
     replace hst:=Lib.hid hst
     replace e:=Lib.hid e
     go_upto_region 9 with fail
     go_quiet ((go_at_call 238;with_reducible exact Calls.quiet_of (TU.out _)))
     go_wp2_with fail
     go_roundw
     case rel=>exact ⟨k+1,by omega,by go_num,by rw [hst.out],q+nq,by rw [hwx.out,World.drewN_drewN]⟩
     case measure=>simp [intOf];omega
   ·
    obtain rfl:k=M2.length:=by omega
    have hlti:¬ (M2.length:Int)<(M2.length:Int):=by omega
    have hOx:OwnI wr w.heap.size P p D:=hwx.out ▸ hO.call (Al (Below.refl _ _) q)
    have hcx:Chg (·=g) w wr:=hwx.out ▸ hc.drewN q
    have hzx:=hcx.size
    cases hbk:bestK G nw M2 M2.length with
    | none =>
     have hbv:bestV (none:Option Nat)=.int .i64 (-1):=rfl
     rw [hbv]
     have hbk2:bestK G nw (Av M D) (Av M D).length=none:=by rw [hM2e.out];exact hbk
     have hR2:RWhAt wr g G nw (Av M D) A2 c2 B2 d2':=by rw [hM2e.out];exact hRx
     replace hbk2:=Lib.hid hbk2
     replace hR2:=Lib.hid hR2
     replace hOx:=Lib.hid hOx
     replace hcx:=Lib.hid hcx
     replace hnb:=Lib.hid hnb
     replace hap:=Lib.hid hap
     go_wp2_with fail
     go_ret2
     first
      | exact ⟨P,p,D,rfl,hOx.out,hI.out,hbk2.out,A2,c2,B2,⟨d2',hR2.out⟩,hnb.out,hcx.out,hap.out⟩
      | exact ⟨P,p,D,rfl,hOx.out,hI.out,hbk2.out,A2,c2,B2,d2',hR2.out,hnb.out,hcx.out,hap.out⟩
      | exact ⟨P,p,D,rfl,hOx.out,hI.out,hbk2.out,A2,B2,⟨c2,d2',hR2.out⟩,hnb.out,hcx.out,hap.out⟩
    | some b =>
     have hbv:bestV (some b)=.int .i64 (b:Int):=rfl
     obtain ⟨hb1,-,-⟩:=Dx hbk
     obtain ⟨ad,ae,hA,hB,hcb,-⟩:=rw_at hRx hb1
     have hx1:=OV hb1
     have hst:=hI.out.step hs.out (b:=b) (by rw [hM2e.out];exact hbk)
     have hsn:=Hg D M (mAt M2 b).1
     rw [hM2e.out] at hst hsn
     have hsh:=Jb hx1
     have hmx:M2[b].1=(mAt M2 b).1:=by simp [mAt,List.getD_eq_getElem?_getD,hb1]
     rw [hmx] at hcb
     have hbi:¬ ((b:Int)<0):=by omega
     have hbl:(b:Int)<(M2.length:Int):=by omega
     rw [hbv]
     obtain ⟨x,hxe⟩:∃ x,(mAt M2 b).1=x:=⟨_,rfl⟩
     rw [hxe] at hst hsn hsh hcb
     have hl2:M2.length≤100000:=by omega
     replace hst:=Lib.hid hst
     replace hsn:=Lib.hid hsn
     replace hbk:=Lib.hid hbk
     have hRy:=Lib.hid hRx
     subst hA hB
     clear hxe hx1 hmx hR hO hRx
     go_wp2_with (first | (at_builtin;(refine Ap rfl (.tmp 85) (.tmp 87) rfl w.heap.size P p D D.length rfl rfl hOx _ rfl rfl (by omega) (by omega) ?_;intro P3 p3 w3 ho3 hp3)))
     have hR3:=hRy.out.chg hp3.chg (fun b hb hF=>hap b hF hb)
     have UN:=Lib.hid (Dw hR3 hl2 x)
     have hc3:Chg (·=g) w w3:=hcx.trans hp3.chg (fun b hb hF=>absurd (hOx.block hF).1 (by omega))
     have hz3:=hc3.size
     clear hp3
     replace hRy:=Lib.hid hRy
     go_wp2_with fail
     refine UN.out.mono ?_
     rintro e w4 ⟨rfl,A4,c4,B4,d4,hR4,hnb4,hc4⟩
     go_wp2_with fail
     go_roundw
     case rel=>exact ⟨D ++ [x],P3,p3,A4,c4,B4,d4,by rw [List.length_append];rfl,ho3.chg hc4 (fun b hb e=>by have:=(ho3.block hb).1;have:b=g:=e;omega),hst.out,by rw [hsn.out,List.length_append,List.length_singleton];omega,by rw [hsn.out];exact hR4,fun b hb=>.inl (by have:=hnb4 b hb;omega),fun b hb hF=>by
      have h5:=ho3.block hb
      rcases hF with hF | hF | hF
      · omega
      · have:=hnb4 b (.inl hF);omega
      · have:=hnb4 b (.inr hF);omega,hc3.trans hc4 (fun _ _ h=>h)⟩
     case measure=>simp [slLen];omega
end
theorem Kt {w:World} {base g bm:Nat} {G now:Int} {M:LM} {R:Nat→List Int} {A:Nat→Option Addr} {C:Nat→Nat} {T:Nat→Int} {Z:Array Value} (h:WhAt w base g bm G now M R A C T Z) (inv:RowInv M R T) (hw:wInv G now M T) (hG:1≤G∧G≤1024) (hnow:0≤now) (nw:Int) (hn:now≤nw∧nw≤1099511627776) (hbase:base≤w.heap.size) :
  Calls Tryz.prog 171 #[.pointer (some ⟨g,0,none⟩),.int .i64 nw] w fun e w'=>∃ (P:Option Addr) (c:Nat) (S:List Int) (R':Nat→List Int) (T':Nat→Int) (Z':Array Value),e=.returned (.tuple #[.slice P S.length c,.int .i64 0])∧(∀ x,x ∈ S ↔ lmHas M x=true∧turnI G (lmGet M x) * G≤nw)∧S.Nodup∧S.Pairwise (leT G M) ∧
   Reads w' w'.heap.size 1 P S.length (S.map (.int .i64))∧(∀ b,InB P b→w.heap.size≤b)∧WhAt w' base g bm G nw (Av M S) R' A C T' Z'∧RowInv (Av M S) R' T'∧wInv G nw (Av M S) T'∧Chg (whF g bm A) w w':=by
 refine (Rd h inv hw hG hnow nw hn hbase).mono ?_
 rintro e w' ⟨P,c,S,R',T',Z',h1,h2,h3,h4,h4b,h5,h6,h7,h8⟩
 have hf1:now / G≤nw / G:=Int.ediv_le_ediv (by omega) hn.1
 exact ⟨P,c,S,R',T',Z',h1,fun x=>h2.mem_iff.trans (OT inv hw hG.1 hnow hn.1 x),h2.nodup_iff.2 (EZ inv nw _ (by unfold cntI;omega)),h3,h4,h4b,h5,h6,h7,h8⟩
theorem wInv.none (G now:Int) (T:Nat→Int):wInv G now [] T:=fun id h=>by cases h
structure WStp where
 kind:Int
 id:Int
 n:Int
section
variable {w w':World} {base g bm g2:Nat} {G n1 n2:Int} {M1 M2:LM}
def goOk (now nw:Int):Bool:=decide (now≤nw∧nw≤1099511627776)
structure GoS (G now nw:Int) (M:LM) (S:List Int):Prop where
 no:goOk now nw=false→S=[]
 mem:goOk now nw=true→∀ x,x ∈ S ↔ lmHas M x=true∧turnI G (lmGet M x) * G≤nw
 nd:S.Nodup
 pw:S.Pairwise (leT G M)
def goE (now nw:Int):Int:=if goOk now nw then 0 else 15
def goN (now nw:Int):Int:=if goOk now nw then nw else now
end
theorem Sw {now nw:Int} (h:0≤now∧now≤1099511627776):0≤goN now nw∧goN now nw≤1099511627776:=by
 unfold goN goOk
 split
 ·
  next h2 =>
  rw [decide_eq_true_eq] at h2
  omega
 · exact h
theorem OwnI.low {w:World} {base base' c:Nat} {A:Option Addr} {L:List Int} (h:OwnI w base A c L) (hb:base'≤base):OwnI w base' A c L:=by
 unfold OwnI OwnA at h ⊢
 refine ⟨h.1,?_⟩
 rcases h.2 with h0 | ⟨g,cap,cur,h1,hg,r⟩
 · exact .inl h0
 · exact .inr ⟨g,cap,cur,h1,by omega,r⟩
theorem WhAt.low {w:World} {base g bm:Nat} {G now:Int} {M:LM} {R:Nat→List Int} {A:Nat→Option Addr} {C:Nat→Nat} {T:Nat→Int} {Z:Array Value} (h:WhAt w base g bm G now M R A C T Z):WhAt w 0 g bm G now M R A C T Z :=
 ⟨h.blk,h.size,h.z0,h.z1,h.z2,h.row,fun k hk=>(h.own k hk).low (Nat.zero_le _),h.apart,h.at_,h.map,Nat.zero_le _,Nat.zero_le _⟩
def WheelP (w:World) (g:Nat) (G now:Int) (M:LM) (X:Nat→Prop):Prop :=
 ∃ (bm:Nat) (R:Nat→List Int) (A:Nat→Option Addr) (C:Nat→Nat) (T:Nat→Int) (Z:Array Value),WhAt w 0 g bm G now M R A C T Z∧RowInv M R T∧wInv G now M T∧(∀ b,X b ↔ whF g bm A b)∧(1≤G∧G≤1024)∧(0≤now∧now≤1099511627776)
section
variable {w w':World} {g:Nat} {G now:Int} {M:LM} {X F:Nat→Prop}
theorem WheelP.chg (h:WheelP w g G now M X) (k:Chg F w w') (hd:∀ b,X b→¬ F b):WheelP w' g G now M X:=by
 obtain ⟨bm,R,A,C,T,Z,h1,h2,h3,h4,h5⟩:=h
 exact ⟨bm,R,A,C,T,Z,h1.chg k (fun b hF hw=>hd b ((h4 b).2 hw) hF),h2,h3,h4,h5⟩
theorem WheelP.lt (h:WheelP w g G now M X) {b:Nat} (hb:X b):b<w.heap.size:=by
 obtain ⟨bm,R,A,C,T,Z,h1,h2,h3,h4,h5⟩:=h
 exact (h1.whF_lt ((h4 b).1 hb)).2
theorem WheelP.rng (h:WheelP w g G now M X):(1≤G∧G≤1024)∧(0≤now∧now≤1099511627776):=by
 obtain ⟨bm,R,A,C,T,Z,h1,h2,h3,h4,h5⟩:=h
 exact h5
theorem Ik (G:Int) (w:World) (hG:1≤G∧G≤1024):Calls Tryz.prog 78 #[.int .i64 G] w fun e w'=>∃ g X,e=.returned (.pointer (some ⟨g,0,none⟩))∧WheelP w' g G 0 [] X∧Below w.heap.size w w'∧∀ b,X b→w.heap.size≤b:=by
 refine (PR G w hG).mono ?_
 rintro e w' ⟨g,bm,Z,rfl,h1,hb⟩
 exact ⟨g,_,rfl,⟨bm,_,_,_,_,Z,h1.low,RowInv.none,wInv.none _ _ _,fun b=>Iff.rfl,hG,by omega⟩,hb,fun b hx=>(h1.whF_lt hx).1⟩
theorem NB (h:WheelP w g G now M X) (n:Nat) (hn:n<4096) (due:Int) (hd:0≤due∧due≤2199023255552) (hM:M.length≤100000) :
  Calls Tryz.prog 217 #[.pointer (some ⟨g,0,none⟩),.int .i64 (n:Int),.int .i64 due] w fun e w'=>e=.returned (.bool true)∧∃ X',WheelP w' g G now (lmPut M n due) X'∧Chg X w w'∧∀ b,X' b→X b∨w.heap.size≤b:=by
 obtain ⟨bm,R,A,C,T,Z,h1,h2,h3,h4,h5,h6⟩:=h
 refine (PY h1 h2 h5 (by omega) n hn due hd hM).mono ?_
 rintro e w' ⟨rfl,R',A',C',T',Z',k1,k2,k3,k4,k5,k6⟩
 exact ⟨rfl,_,⟨bm,R',A',C',T',Z',k1,k2,h3.put (fun x hx=>(h2.idr x hx).1) k3 k4,fun b=>Iff.rfl,h5,h6⟩,k5.mono fun b _ hb=>(h4 b).2 hb,fun b hb=>(k6 b hb).imp (fun x=>(h4 b).2 x) id⟩
theorem Ku (h:WheelP w g G now M X) (n:Nat) (hn:n<4096) :
  Calls Tryz.prog 228 #[.pointer (some ⟨g,0,none⟩),.int .i64 (n:Int)] w fun e w'=>e=.returned (.bool (lmHas M n))∧WheelP w' g G now (lmDel M n) X∧Chg X w w':=by
 obtain ⟨bm,R,A,C,T,Z,h1,h2,h3,h4,h5,h6⟩:=h
 refine (D5 h1 h2 (by omega) n hn).mono ?_
 rintro e w' ⟨rfl,R',T',Z',k1,k2,k3,-,k5⟩
 exact ⟨rfl,⟨bm,R',A,C,T',Z',k1,k2,h3.del (fun x hx=>(h2.idr x hx).1) k3,h4,h5,h6⟩,k5.mono fun b _ hb=>(h4 b).2 hb⟩
theorem NC (h:WheelP w g G now M X) :
  Calls Tryz.prog 215 #[.pointer (some ⟨g,0,none⟩)] w fun e w'=>e=.returned (.int .i64 now)∧w=w':=by
 obtain ⟨bm,R,A,C,T,Z,h1,h2,h3,h4,h5,h6⟩:=h
 exact PP h1 (by omega)
theorem Q0 (h:WheelP w g G now M X) (nw:Int) :
  Calls Tryz.prog 171 #[.pointer (some ⟨g,0,none⟩),.int .i64 nw] w fun e w'=>∃ (B:Option Addr) (q:Nat) (S:List Int),e=.returned (.tuple #[.slice B S.length q,.int .i64 (goE now nw)])∧GoS G now nw M S∧Reads w' w'.heap.size 1 B S.length (S.map (.int .i64))∧(∀ b,InB B b→w.heap.size≤b)∧WheelP w' g G (goN now nw) (Av M S) X∧Chg X w w':=by
 obtain ⟨bm,R,A,C,T,Z,h1,h2,h3,h4,h5,h6⟩:=h
 have h7:=Sw (nw:=nw) h6
 unfold goE
 cases hs:goOk now nw
 ·
  have hk:=hs
  unfold goOk at hk
  rw [decide_eq_false_iff_not] at hk
  refine (M8 h1 (by omega) nw (by omega)).mono ?_
  rintro e w' ⟨rfl,hb⟩
  have e1:goN now nw=now:=by unfold goN;rw [hs];rfl
  rw [e1] at h7 ⊢
  exact ⟨none,0,[],rfl,⟨fun _=>rfl,fun e=>(by rw [hs] at e;cases e),List.nodup_nil,List.Pairwise.nil⟩,⟨rfl,fun h=>absurd h (by decide)⟩,fun b hb=>absurd hb Ba,⟨bm,R,A,C,T,Z,h1.call hb,h2,h3,h4,h5,h6⟩,Chg.of_below hb⟩
 ·
  have hk:=hs
  unfold goOk at hk
  rw [decide_eq_true_eq] at hk
  refine (Kt h1 h2 h3 h5 (by omega) nw hk (Nat.zero_le _)).mono ?_
  rintro e w' ⟨B,q,S,R',T',Z',rfl,k1,k2,k3,k4,k5,k6,k7,k8,k9⟩
  have e1:goN now nw=nw:=by unfold goN;rw [hs];rfl
  rw [e1] at h7 ⊢
  exact ⟨B,q,S,rfl,⟨fun e=>(by rw [hs] at e;cases e),fun _=>k1,k2,k3⟩,k4,k5,⟨bm,R',A,C,T',Z',k6,k7,k8,h4,h5,h7⟩,k9.mono fun b _ hb=>(h4 b).2 hb⟩
end
structure Slt where
 t:Tup
 bk:Int
 st:Int
 sl:Int
 gen:Int
 due:Int
 used:Bool
abbrev Slt.ent (s:Slt):List Value:=[.int .i64 s.t.p,.bool s.t.v,.int .u64 s.t.hi,.int .u64 s.t.lo,.bool s.t.v',.int .u64 s.t.hi',.int .u64 s.t.lo',.int .i64 s.t.sp,.int .i64 s.t.dp,.int .i64 s.bk,.int .i64 s.st,.int .i64 s.sl,.int .u64 s.gen,.int .i64 s.due]
abbrev Slt.cells (s:Slt):List Value:=[.int .i64 s.t.p,.bool s.t.v,.int .u64 s.t.hi,.int .u64 s.t.lo,.bool s.t.v',.int .u64 s.t.hi',.int .u64 s.t.lo',.int .i64 s.t.sp,.int .i64 s.t.dp,.int .i64 s.bk,.int .i64 s.st,.int .i64 s.sl,.int .u64 s.gen,.int .i64 s.due,.bool s.used]
def Slots (w:World) (sb n:Nat) (E:Nat→Slt):Prop :=
 ∃ Z:Array Value,Blk w sb 203 Z∧Z.size=n * 15∧∀ i,i<n→∀ j,j<15→Z[i * 15+j]?=(E i).cells[j]?
def updE (E:Nat→Slt) (i:Nat) (s:Slt):Nat→Slt:=fun j=>if j=i then s else E j
theorem Ad (E:Nat→Slt) (i:Nat) (s:Slt):updE E i s i=s:=if_pos rfl
theorem AP (E:Nat→Slt) {i j:Nat} (s:Slt) (h:j≠i):updE E i s j=E j:=if_neg h
theorem Az (E:Nat→Slt) (i:Nat) (s t:Slt):updE (updE E i s) i t=updE E i t:=by
 funext j
 unfold updE
 split <;> rfl
section
variable {w w':World} {sb n:Nat} {E:Nat→Slt} {F:Nat→Prop}
theorem Slots.lt (h:Slots w sb n E):sb<w.heap.size:=by
 obtain ⟨Z,h1,h2,h3⟩:=h
 exact h1.lt
theorem Slots.chg (h:Slots w sb n E) (k:Chg F w w') (hd:¬ F sb):Slots w' sb n E:=by
 obtain ⟨Z,h1,h2,h3⟩:=h
 exact ⟨Z,h1.chg k hd,h2,h3⟩
theorem Slots.frozen (h:Slots w sb n E) (x:Nat):w.frozen? ⟨sb,x,none⟩=false:=by
 obtain ⟨Z,h1,h2,h3⟩:=h
 exact h1.frozen x
theorem Slots.cell (h:Slots w sb n E) {i:Nat} (hi:i<n) (j:Nat) (hj:j<15):w.cell? ⟨sb,i * 15+j,none⟩=(E i).cells[j]?:=by
 obtain ⟨Z,h1,h2,h3⟩:=h
 rw [h1.cell,h3 i hi j hj]
theorem Slots.set (h:Slots w sb n E) {i:Nat} (hi:i<n) (j:Nat) (hj:j<15) (v:Value) (s:Slt) (hs:s.cells=(E i).cells.set j v):Slots (w.setCell ⟨sb,i * 15+j,none⟩ v) sb n (updE E i s):=by
 obtain ⟨Z,h1,h2,h3⟩:=h
 refine ⟨_,h1.set_ (i * 15+j) v,by simpa using h2,fun i' hi' j' hj'=>?_⟩
 by_cases e:i'=i
 ·
  subst e
  rw [Ad,hs]
  by_cases e2:j'=j
  ·
   subst e2
   rw [Array.getElem?_setIfInBounds_self_of_lt (by omega),List.getElem?_set_self (by simpa using hj)]
  · rw [Array.getElem?_setIfInBounds_ne (by omega),h3 i' hi' j' hj',List.getElem?_set_ne (Ne.symm e2)]
 · rw [AP E s e,Array.getElem?_setIfInBounds_ne (by omega),h3 i' hi' j' hj']
end
structure TCfg where
 a:Int
 b:Int
 c:Int
 d:Int
 G:Int
structure TSt where
 now:Int
 M:LM
 L:List Int
 E:Nat→Slt
 lk:Int
def TabP (w:World) (g sb n:Nat) (c:TCfg) (s:TSt) (X:Nat→Prop):Prop :=
 ∃ (fs wg:Nat) (F Y:Nat→Prop),Blk w g 201 #[.int .i64 c.a,.int .i64 c.b,.int .i64 c.c,.int .i64 c.d,.pointer (some ⟨fs,0,none⟩),.pointer (some ⟨wg,0,none⟩),.slice (some ⟨sb,0,none⟩) n n,.int .i64 s.lk] ∧
  StackP w fs n s.L F∧WheelP w wg c.G s.now s.M Y∧Slots w sb n s.E∧(∀ b,X b ↔ b=g∨b=sb∨F b∨Y b)∧(∀ b,F b→¬ Y b)∧(∀ b,F b∨Y b→b≠g∧b≠sb)∧g≠sb∧n≤4096
section
variable {w w':World} {g sb n:Nat} {c:TCfg} {s:TSt} {X F:Nat→Prop}
theorem TabP.chg (h:TabP w g sb n c s X) (k:Chg F w w') (hd:∀ b,X b→¬ F b):TabP w' g sb n c s X:=by
 obtain ⟨fs,wg,F',Y,h1,h2,h3,h4,h5,h6⟩:=h
 exact ⟨fs,wg,F',Y,h1.chg k (hd _ ((h5 _).2 (.inl rfl))),h2.chg k (fun b hb=>hd b ((h5 b).2 (.inr (.inr (.inl hb))))),h3.chg k (fun b hb=>hd b ((h5 b).2 (.inr (.inr (.inr hb))))),h4.chg k (hd _ ((h5 _).2 (.inr (.inl rfl)))),h5,h6⟩
theorem TabP.call (h:TabP w g sb n c s X) (hb:Below w.heap.size w w'):TabP w' g sb n c s X:=h.chg (F:=fun _=>False) (Chg.of_below hb) (fun _ _ h=>h)
theorem TabP.lt (h:TabP w g sb n c s X) {b:Nat} (hb:X b):b<w.heap.size:=by
 obtain ⟨fs,wg,F',Y,h1,h2,h3,h4,h5,h6⟩:=h
 rcases (h5 b).1 hb with rfl | rfl | hb | hb
 · exact h1.lt
 · exact h4.lt
 · exact h2.lt hb
 · exact h3.lt hb
end
theorem Jc (w:World):Calls Tryz.prog 144 #[.pointer none] w fun e w'=>e=.returned (.bool false)∧w=w':=by
 go_enter Tryz.func144,Tryz.ntmps144
 go_wp2_with fail
 go_ret
 exact ⟨rfl,rfl⟩
section
variable {w w':World} {g sb n:Nat} {c:TCfg} {s:TSt} {X F:Nat→Prop}
theorem Ea (h:TabP w g sb n c s X):Calls Tryz.prog 144 #[.pointer (some ⟨g,0,none⟩)] w fun e w'=>e=.returned (.bool true)∧w=w':=by
 obtain ⟨fs,wg,F',Y,h1,h2,h3,h4,h5,h6⟩:=h
 have c5:=h1.cell 5
 simp at c5
 clear h1 h2 h3 h4
 go_enter Tryz.func144,Tryz.ntmps144
 go_wp2_with fail
 go_ret
 exact ⟨rfl,rfl⟩
theorem TabP.cells (h:TabP w g sb n c s X):w.cell? ⟨g,6,none⟩=some (.slice (some ⟨sb,0,none⟩) n n)∧w.cell? ⟨g,7,none⟩=some (.int .i64 s.lk)∧(∀ j,w.frozen? ⟨g,j,none⟩=false)∧n≤4096:=by
 obtain ⟨fs,wg,F',Y,h1,h2,h3,h4,h5,h6,h7,h8,h9⟩:=h
 exact ⟨h1.cell 6,h1.cell 7,h1.frozen,h9⟩
theorem TabP.setLk (h:TabP w g sb n c s X) (l:Int):TabP (w.setCell ⟨g,7,none⟩ (.int .i64 l)) g sb n c { s with lk:=l } X:=by
 obtain ⟨fs,wg,F',Y,h1,h2,h3,h4,h5,h6,h7,h8,h9⟩:=h
 have k:Chg (·=g) w (w.setCell ⟨g,7,none⟩ (.int .i64 l)):=Chg.setCell (F:=(·=g)) (p:=⟨g,7,none⟩) (Chg.refl _ _) (fun _=>rfl) _
 refine ⟨fs,wg,F',Y,?_,h2.chg k (fun b hb e=>(h7 b (.inl hb)).1 e),h3.chg k (fun b hb e=>(h7 b (.inr hb)).1 e),h4.chg k (fun e=>h8 e.symm),h5,h6,h7,h8,h9⟩
 have:=h1.set_ 7 (.int .i64 l)
 simpa using this
def Bc (n:Nat) (i:Int):Bool:=decide (0≤i∧i<(n:Int))
def lookS (n:Nat) (i:Int) (s:TSt):TSt:=if Bc n i then { s with lk:=wrap64 (s.lk+1) } else s
theorem Il (h:TabP w g sb n c s X) (i:Int):Calls Tryz.prog 147 #[.pointer (some ⟨g,0,none⟩),.int .i64 i] w fun e w'=>e=.returned (.pointer (if Bc n i then some ⟨sb,i.toNat * 15,none⟩ else none))∧TabP w' g sb n c (lookS n i s) X∧Chg (·=g) w w':=by
 have GV:=Lib.hid (Ea h)
 obtain ⟨c6,c7,hf,hn⟩:=h.cells
 have hL:=h.setLk (wrap64 (s.lk+1))
 unfold lookS
 by_cases hi:0≤i∧i<(n:Int)
 ·
  have hk:Bc n i=true:=by unfold Bc;simpa using hi
  rw [hk,if_pos rfl,if_pos rfl]
  obtain ⟨k,rfl⟩:∃ k:Nat,i=(k:Int):=⟨i.toNat,by omega⟩
  rw [Int.toNat_natCast]
  have x1:decide ((k:Int)<0)=false:=by simp
  have x2:decide (n≤k)=false:=by simp;omega
  have x3:(k:Int)<(n:Int):=hi.2
  have f7:=hf 7
  replace hL:=Lib.hid hL
  clear h hf hk hi
  go_enter Tryz.func147,Tryz.ntmps147
  go_wp2_with (go_at_call 144;(with_reducible refine GV.out.mono ?_);rintro e w1 ⟨rfl,rfl⟩)
  go_ret
  exact ⟨rfl,hL.out,Chg.setCell (F:=(·=g)) (p:=⟨g,7,none⟩) (Chg.refl _ _) (fun _=>rfl) _⟩
 ·
  have hk:Bc n i=false:=by unfold Bc;simpa using hi
  rw [hk,if_neg (by decide),if_neg (by decide)]
  replace h:=Lib.hid h
  clear hf hk hL
  by_cases hi0:i<0
  case' pos=>have x1:decide (i<0)=true:=by simpa using hi0
  case' neg =>
   have x1:decide (i<0)=false:=by simpa using hi0
   have x2:decide ((n:Int)≤i)=true:=by simp;omega
  all_goals
   clear hi
   go_enter Tryz.func147,Tryz.ntmps147
   go_wp2_with (go_at_call 144;(with_reducible refine GV.out.mono ?_);rintro e w1 ⟨rfl,rfl⟩)
   go_ret
   exact ⟨rfl,h.out,Chg.refl _ _⟩
def genI (n:Nat) (E:Nat→Slt) (i:Int):Int:=if Bc n i then (E i.toNat).gen else 0
end
section
variable {w w':World} {g sb n:Nat} {c:TCfg} {s:TSt} {X F:Nat→Prop}
theorem TabP.setE (h:TabP w g sb n c s X) {i:Nat} (hi:i<n) (j:Nat) (hj:j<15) (v:Value) (t:Slt) (hs:t.cells=(s.E i).cells.set j v):TabP (w.setCell ⟨sb,i * 15+j,none⟩ v) g sb n c { s with E:=updE s.E i t } X:=by
 obtain ⟨fs,wg,F',Y,h1,h2,h3,h4,h5,h6,h7,h8,h9⟩:=h
 have k:Chg (·=sb) w (w.setCell ⟨sb,i * 15+j,none⟩ v):=Chg.setCell (F:=(·=sb)) (p:=⟨sb,i * 15+j,none⟩) (Chg.refl _ _) (fun _=>rfl) _
 exact ⟨fs,wg,F',Y,h1.chg k h8,h2.chg k (fun b hb e=>(h7 b (.inl hb)).2 e),h3.chg k (fun b hb e=>(h7 b (.inr hb)).2 e),h4.set hi j hj v t hs,h5,h6,h7,h8,h9⟩
theorem TabP.slot (h:TabP w g sb n c s X) {i:Nat} (hi:i<n) (j:Nat) (hj:j<15):w.cell? ⟨sb,i * 15+j,none⟩=(s.E i).cells[j]?:=by
 obtain ⟨fs,wg,F',Y,h1,h2,h3,h4,h5,h6⟩:=h
 exact h4.cell hi j hj
theorem TabP.slotf (h:TabP w g sb n c s X) (x:Nat):w.frozen? ⟨sb,x,none⟩=false:=by
 obtain ⟨fs,wg,F',Y,h1,h2,h3,h4,h5,h6⟩:=h
 exact h4.frozen x
theorem TabP.wheel (h:TabP w g sb n c s X):∃ wg,w.cell? ⟨g,5,none⟩=some (.pointer (some ⟨wg,0,none⟩))∧∃ fs F Y,w.cell? ⟨g,4,none⟩=some (.pointer (some ⟨fs,0,none⟩))∧StackP w fs n s.L F∧WheelP w wg c.G s.now s.M Y∧(∀ b,Y b→b≠g∧b≠sb)∧(∀ b,F b→b≠g∧b≠sb) ∧
  (∀ (w':World) (now':Int) (M':LM) (Y':Nat→Prop),WheelP w' wg c.G now' M' Y'→Chg Y w w'→(∀ b,Y' b→Y b∨w.heap.size≤b)→∃ X',TabP w' g sb n c { s with now:=now',M:=M' } X'∧Chg X w w'∧∀ b,X' b→X b∨w.heap.size≤b) ∧
  (∀ (w':World) (L':List Int) (F':Nat→Prop),StackP w' fs n L' F'→Chg F w w'→(∀ b,F' b→F b∨w.heap.size≤b)→∃ X',TabP w' g sb n c { s with L:=L' } X'∧Chg X w w'∧∀ b,X' b→X b∨w.heap.size≤b):=by
 obtain ⟨fs,wg,F',Y,h1,h2,h3,h4,h5,h6,h7,h8,h9⟩:=h
 have c4:=h1.cell 4
 have c5:=h1.cell 5
 have hgl:=h1.lt
 have hsl:=h4.lt
 simp at c4 c5
 refine ⟨wg,c5,fs,F',Y,c4,h2,h3,fun b hb=>h7 b (.inr hb),fun b hb=>h7 b (.inl hb),fun w' now' M' Y' k1 k2 k3=>?_,fun w' L' F'' k1 k2 k3=>?_⟩
 ·
  refine ⟨fun b=>b=g∨b=sb∨F' b∨Y' b,⟨fs,wg,F',Y',h1.chg k2 (fun e=>(h7 g (.inr e)).1 rfl),h2.chg k2 (fun b hb e=>h6 b hb e),k1,h4.chg k2 (fun e=>(h7 sb (.inr e)).2 rfl),fun b=>Iff.rfl,fun b hb hy=>?_,fun b hb=>?_,h8,h9⟩,k2.mono fun b _ hb=>(h5 b).2 (.inr (.inr (.inr hb))),fun b hb=>?_⟩
  ·
   rcases k3 b hy with hy | hy
   · exact h6 b hb hy
   ·
    have:=h2.lt hb
    omega
  ·
   rcases hb with hb | hb
   · exact h7 b (.inl hb)
   ·
    rcases k3 b hb with hy | hy
    · exact h7 b (.inr hy)
    · omega
  ·
   rcases hb with hb | hb | hb | hb
   · exact .inl ((h5 b).2 (.inl hb))
   · exact .inl ((h5 b).2 (.inr (.inl hb)))
   · exact .inl ((h5 b).2 (.inr (.inr (.inl hb))))
   · exact (k3 b hb).imp (fun h=>(h5 b).2 (.inr (.inr (.inr h)))) id
 ·
  refine ⟨fun b=>b=g∨b=sb∨F'' b∨Y b,⟨fs,wg,F'',Y,h1.chg k2 (fun e=>(h7 g (.inl e)).1 rfl),k1,h3.chg k2 (fun b hb e=>h6 b e hb),h4.chg k2 (fun e=>(h7 sb (.inl e)).2 rfl),fun b=>Iff.rfl,fun b hb hy=>?_,fun b hb=>?_,h8,h9⟩,k2.mono fun b _ hb=>(h5 b).2 (.inr (.inr (.inl hb))),fun b hb=>?_⟩
  ·
   rcases k3 b hb with hx | hx
   · exact h6 b hx hy
   ·
    have:=h3.lt hy
    omega
  ·
   rcases hb with hb | hb
   ·
    rcases k3 b hb with hy | hy
    · exact h7 b (.inl hy)
    · omega
   · exact h7 b (.inr hb)
  ·
   rcases hb with hb | hb | hb | hb
   · exact .inl ((h5 b).2 (.inl hb))
   · exact .inl ((h5 b).2 (.inr (.inl hb)))
   · exact (k3 b hb).imp (fun h=>(h5 b).2 (.inr (.inr (.inl h)))) id
   · exact .inl ((h5 b).2 (.inr (.inr (.inr hb))))
theorem TabP.rule (h:TabP w g sb n c s X):w.cell? ⟨g,0,none⟩=some (.int .i64 c.a)∧w.cell? ⟨g,1,none⟩=some (.int .i64 c.b)∧w.cell? ⟨g,2,none⟩=some (.int .i64 c.c)∧w.cell? ⟨g,3,none⟩=some (.int .i64 c.d):=by
 obtain ⟨fs,wg,F',Y,h1,h2,h3,h4,h5,h6⟩:=h
 exact ⟨h1.cell 0,h1.cell 1,h1.cell 2,h1.cell 3⟩
theorem TabP.rng (h:TabP w g sb n c s X):(1≤c.G∧c.G≤1024)∧(0≤s.now∧s.now≤1099511627776)∧n≤4096:=by
 obtain ⟨fs,wg,F',Y,h1,h2,h3,h4,h5,h6,h7,h8,h9⟩:=h
 exact ⟨h3.rng.1,h3.rng.2,h9⟩
abbrev dueT (c:TCfg) (now st:Int):Int:=now+idleS c.a c.b c.c c.d st
set_option maxRecDepth 100000 in
set_option maxHeartbeats 4000000 in
theorem Q6 (h:TabP w g sb n c s X) (i:Nat) (hi:i<n) (hsl:(s.E i).sl=i) (hM:s.M.length≤100000) (hI:0≤idleS c.a c.b c.c c.d (s.E i).st∧idleS c.a c.b c.c c.d (s.E i).st≤1048576) :
  Calls Tryz.prog 148 #[.pointer (some ⟨g,0,none⟩),.pointer (some ⟨sb,i * 15,none⟩)] w fun e w'=>e=.returned (.tuple #[]) ∧
   ∃ X',TabP w' g sb n c { s with E:=updE s.E i { s.E i with due:=dueT c s.now (s.E i).st },M:=lmPut s.M i (dueT c s.now (s.E i).st) } X'∧Chg X w w'∧∀ b,X' b→X b∨w.heap.size≤b:=by
 obtain ⟨r1,r2,hn⟩:=h.rng
 obtain ⟨wg,c5,fs,F',Y,-,-,hW,-,-,-,-⟩:=h.wheel
 obtain ⟨c0,c1,c2,c3⟩:=h.rule
 have c10:=h.slot hi 10 (by omega)
 simp at c10
 have f13:=h.slotf (i * 15+13)
 have FZ:=Lib.hid fun W (hb:Below w.heap.size w W)=>(h.call hb).slotf (i * 15+13)
 have CZ:=Lib.hid fun W (hb:Below w.heap.size w W)=>show W.cell? ⟨sb,i * 15+13,none⟩=some (.int .i64 (s.E i).due) from ((h.call hb).slot hi 13 (by omega)).trans rfl
 have SB:=Lib.hid fun W (hb:Below w.heap.size w W)=>show Chg (·=sb) w W∧W.cell? ⟨g,0,none⟩=some (.int .i64 c.a)∧W.cell? ⟨g,1,none⟩=some (.int .i64 c.b)∧W.cell? ⟨g,2,none⟩=some (.int .i64 c.c)∧W.cell? ⟨g,3,none⟩=some (.int .i64 c.d)∧W.cell? ⟨g,5,none⟩=some (.pointer (some ⟨wg,0,none⟩))∧W.cell? ⟨sb,i * 15+10,none⟩=some (.int .i64 (s.E i).st) from ⟨Chg.of_below hb,(h.call hb).rule.1,(h.call hb).rule.2.1,(h.call hb).rule.2.2.1,(h.call hb).rule.2.2.2,(by obtain ⟨fs,wg2,F',Y,h1,_⟩:=h;have:=(h1.call hb).cell 5;have e2:=c5.symm.trans (h1.cell 5);simp at e2 this;rw [this,e2]),((h.call hb).slot hi 10 (by omega)).trans rfl⟩
 have hgs:g≠sb:=by obtain ⟨_,_,_,_,_,_,_,_,_,_,_,h8,_⟩:=h;exact h8
 have KS:=Lib.hid fun W (v:Value) (hS:Chg (·=sb) w W∧W.cell? ⟨g,0,none⟩=some (.int .i64 c.a)∧W.cell? ⟨g,1,none⟩=some (.int .i64 c.b)∧W.cell? ⟨g,2,none⟩=some (.int .i64 c.c)∧W.cell? ⟨g,3,none⟩=some (.int .i64 c.d)∧W.cell? ⟨g,5,none⟩=some (.pointer (some ⟨wg,0,none⟩))∧W.cell? ⟨sb,i * 15+10,none⟩=some (.int .i64 (s.E i).st))=>show Chg (·=sb) w (W.setCell ⟨sb,i * 15+13,none⟩ v)∧(W.setCell ⟨sb,i * 15+13,none⟩ v).cell? ⟨g,0,none⟩=some (.int .i64 c.a)∧(W.setCell ⟨sb,i * 15+13,none⟩ v).cell? ⟨g,1,none⟩=some (.int .i64 c.b)∧(W.setCell ⟨sb,i * 15+13,none⟩ v).cell? ⟨g,2,none⟩=some (.int .i64 c.c)∧(W.setCell ⟨sb,i * 15+13,none⟩ v).cell? ⟨g,3,none⟩=some (.int .i64 c.d)∧(W.setCell ⟨sb,i * 15+13,none⟩ v).cell? ⟨g,5,none⟩=some (.pointer (some ⟨wg,0,none⟩))∧(W.setCell ⟨sb,i * 15+13,none⟩ v).cell? ⟨sb,i * 15+10,none⟩=some (.int .i64 (s.E i).st) from by
  obtain ⟨h0,h1,h2,h3,h4,h5,h6⟩:=hS
  refine ⟨Chg.setCell (F:=(·=sb)) (p:=⟨sb,i * 15+13,none⟩) h0 (fun _=>rfl) _,?_,?_,?_,?_,?_,?_⟩
  all_goals
   refine (World.cell?_setCell_other _ _ _ _ ?_).trans (by assumption)
   simp
 have hst:=fun W (hb:Below w.heap.size w W) (v:Int)=>(h.call hb).setE hi 13 (by omega) (.int .i64 v) { s.E i with due:=v } (by simp)
 have hcs:=fun W (hb:Below w.heap.size w W) (v:Int)=>show Chg X w (W.setCell ⟨sb,i * 15+13,none⟩ (.int .i64 v)) from Chg.setCell (F:=X) (p:=⟨sb,i * 15+13,none⟩) (Chg.of_below hb) (fun _=>by obtain ⟨_,_,_,_,_,_,_,_,h5,_⟩:=h;exact (h5 _).2 (.inr (.inl rfl))) _
 have NW:=Lib.hid fun W (hb:Below w.heap.size w W)=>NC (hW.chg (F:=fun _=>False) (Chg.of_below hb) (fun _ _ h=>h))
 have ID:=Lib.hid fun W=>QJ c.a c.b c.c c.d (s.E i).st W
 have hwr:IntKind.i64.wrap (s.now+idleS c.a c.b c.c c.d (s.E i).st)=dueT c s.now (s.E i).st:=by unfold dueT;simp [IntKind.wrap,IntKind.bits,IntKind.signed];omega
 have hdr:0≤dueT c s.now (s.E i).st∧dueT c s.now (s.E i).st≤2199023255552:=by unfold dueT;omega
 generalize dueT c s.now (s.E i).st=due at *
 generalize idleS c.a c.b c.c c.d (s.E i).st=idl at *
 replace hst:=Lib.hid hst
 replace hcs:=Lib.hid hcs
 replace hwr:=Lib.hid hwr
 clear hW h
 go_enter Tryz.func148,Tryz.ntmps148
 go_wp2_with fail
 have hb0:Below w.heap.size w w.drew:=(Below.refl _ _).drew
 go_region_held3 (fun W=>Chg (·=sb) w W∧W.cell? ⟨g,0,none⟩=some (.int .i64 c.a)∧W.cell? ⟨g,1,none⟩=some (.int .i64 c.b)∧W.cell? ⟨g,2,none⟩=some (.int .i64 c.c)∧W.cell? ⟨g,3,none⟩=some (.int .i64 c.d)∧W.cell? ⟨g,5,none⟩=some (.pointer (some ⟨wg,0,none⟩))∧W.cell? ⟨sb,i * 15+10,none⟩=some (.int .i64 (s.E i).st)) (first | ((first | assumption | ((refine ⟨?_,?_⟩;(first | assumption | exact (Below.refl _ _).drew | exact Below.refl _ _);go_keep)))) | (refine KS.out _ _ ?_;assumption) | exact SB.out _ hb0) (first
  | (go_at_call 215;(with_reducible refine (NW.out _ hb0).mono ?_);rintro e w1 ⟨rfl,rfl⟩)
  | (go_at_call 216;(with_reducible refine (ID.out _).mono ?_);rintro e w2 ⟨rfl,hb2⟩;have hb3:=A8 hb2 hb0;have hS2:=SB.out _ hb3;have f2:=FZ.out _ hb3;have z2:=CZ.out _ hb3))
 all_goals
  rw [hwr.out]
  have hT3:=hst.out w2 hb3 due
  have hc3:=hcs.out w2 hb3 due
  clear hst hcs FZ CZ SB KS NW ID hS2 f2 z2 c0 c1 c2 c3 c5 c10 f13
  generalize w2.setCell ⟨sb,i * 15+13,none⟩ (.int .i64 due)=w3 at *
  have hz3:=hc3.size
  have hTd:=hT3.call (Below.refl w3.heap.size w3).drew
  obtain ⟨wg2,c5,fs,F2,Y2,-,-,hW,hYn,-,hput,-⟩:=hTd.wheel
  have c11:=hTd.slot hi 11 (by omega)
  have c13:=hTd.slot hi 13 (by omega)
  simp [Ad,hsl] at c11 c13
  have ST:=Lib.hid (NB hW i (by omega) due hdr hM)
  have hK:=Lib.hid fun W (k:Chg Y2 w3.drew W)=>show W.cell? ⟨g,5,none⟩=some (.pointer (some ⟨wg2,0,none⟩))∧W.cell? ⟨sb,i * 15+11,none⟩=some (.int .i64 (i:Int))∧W.cell? ⟨sb,i * 15+13,none⟩=some (.int .i64 due) from
   ⟨(Af k (A0 c5) (fun e=>(hYn _ e).1 rfl)).trans c5,(Af k (A0 c11) (fun e=>(hYn _ e).2 rfl)).trans c11,(Af k (A0 c13) (fun e=>(hYn _ e).2 rfl)).trans c13⟩
  replace hput:=Lib.hid hput
  replace hTd:=Lib.hid hTd
  clear hW hT3
  go_wp2_with fail
  go_region_held3 (fun W=>W.cell? ⟨g,5,none⟩=some (.pointer (some ⟨wg2,0,none⟩))∧W.cell? ⟨sb,i * 15+11,none⟩=some (.int .i64 (i:Int))∧W.cell? ⟨sb,i * 15+13,none⟩=some (.int .i64 due)) ((first | assumption | ((refine ⟨?_,?_⟩;(first | assumption | exact (Below.refl _ _).drew | exact Below.refl _ _);go_keep)))) (first
   | (go_at_call 217;(with_reducible refine ST.out.mono ?_);rintro e w4 ⟨rfl,Y4,hW4,hc4,hY4⟩;have hS4:=hK.out _ hc4))
  all_goals
   obtain ⟨X4,hT4,hcX,hX4⟩:=hput.out _ _ _ _ hW4 hc4 hY4
   replace hT4:=Lib.hid hT4
   go_wp2_with fail
   go_end0
   exact ⟨rfl,X4,hT4.out,hc3.trans hcX (fun _ _ h=>h),fun b hb=>(hX4 b hb).imp id (fun h=>Nat.le_trans hz3 h)⟩
end
end Go.Proofs.YteklkljndchjiaaGreat
