/- stateful: the rules of both tables. -/
import Derived.Test.YteklkljndchjiaaGreatJ9
import Derived.Test.YteklkljndchjiaaGreatJ5
import Derived.Deep.MidRow
import Derived.Deep.CutRange
namespace Go.Proofs.YteklkljndchjiaaGreat
open Go Go.RowKit Go.Deep Go.Maps Go.ChangeMaps
def overL:List Value→List Value→List Value
 | [],_=>[]
 | x :: l,[]=>x :: l
 | _ :: l,v :: r=>v :: overL l r
def setL:List Value→Nat→List Value→List Value
 | l,0,vs=>overL l vs
 | [],_+1,_=>[]
 | x :: l,n+1,vs=>x :: setL l n vs
theorem Ps (l:List Value):overL l []=l:=by cases l <;> rfl
theorem Lr:∀ (l:List Value) (o:Nat),setL l o []=l
 | l,0=>by rw [setL];exact Ps l
 | [],_+1=>rfl
 | x :: l,n+1=>by rw [setL,Lr l n]
theorem Jz (v:Value) (r:List Value):∀ (l:List Value) (o:Nat),setL l o (v :: r)=setL (l.set o v) (o+1) r
 | [],0=>by cases r <;> rfl
 | [],_+1=>rfl
 | x :: l,0=>by cases l <;> rfl
 | x :: l,n+1=>by
  rw [List.set_cons_succ,setL,Jz v r l n]
  rfl
abbrev setA (cs:Array Value) (o:Nat) (vs:List Value):Array Value:=(setL cs.toList o vs).toArray
section
variable {w:World} {b o:Nat} {t:TypeId} {cs:Array Value}
theorem Blk.range (h:Blk w b t cs) {vs:List Value} (hs:(cs.toList.drop o).take vs.length=vs):w.rangeAt b o vs:=fun j v hv=>by
 have hj:j<vs.length:=(List.getElem?_eq_some_iff.1 hv).1
 have e:=congrArg (fun l:List Value=>l[j]?) hs
 rw [List.getElem?_take_of_lt hj,List.getElem?_drop,Array.getElem?_toList] at e
 rw [h.cell (o+j),e,hv]
theorem Blk.thereB (h:Blk w b t cs) {n:Nat} (hs:o+n≤cs.size):w.there b o n:=fun j hj=>by
 refine ⟨?_,h.frozen _⟩
 rw [h.cell,Array.getElem?_eq_getElem (by omega)]
 rfl
theorem Blk.setCells:∀ (vs:List Value) {w:World} {cs:Array Value} (o:Nat),Blk w b t cs→Blk (w.setCells b o vs) b t (setA cs o vs)
 | [],_,cs,o,h=>by
  unfold setA
  rw [Lr]
  exact h
 | v :: r,w,cs,o,h=>by
  have:=Blk.setCells r (o+1) (h.set_ o v)
  unfold setA at this ⊢
  rw [Array.toList_setIfInBounds,← Jz] at this
  exact this
theorem Fg (b:Nat):∀ (vs:List Value) (w w0:World) (o:Nat),Chg (·=b) w0 w→Chg (·=b) w0 (w.setCells b o vs)
 | [],_,_,_,h=>h
 | v :: r,w,w0,o,h=>by
  rw [World.setCells]
  exact Fg b r _ _ (o+1) (Chg.setCell (p:=⟨b,o,none⟩) h (fun _=>rfl) v)
theorem EE (b:Nat):∀ (vs:List Value) (w:World) (o:Nat),(w.setCells b o vs).heap.size=w.heap.size
 | [],_,_=>rfl
 | v :: r,w,o=>by
  rw [World.setCells,EE b r]
  simp [World.setCell]
end
section
variable {P:Program} {ops:Array Oper} {rest:List Oper} {op:Oper} {a:Act} {w:World} {Q:Exit→Act→World→Prop} {K:Act→World→Prop}
theorem Lt (ty:TypeId) (x:Operand) (ho:op.op=.load ty x) (b o:Nat) (hx:a.eval x=.pointer (some ⟨b,o,none⟩)) {t:TypeId} {cs:Array Value} (hB:Blk w b t cs) (vs:List Value) (hs:(cs.toList.drop o).take vs.length=vs) (d:TypeDesc)
  (hu:P.underlying ty=some d) (hd:d.isRow=true) (hi:(P.info? ty).map (·.size)=some vs.length) (h:K (a.put op.dst (.agg vs.toArray)) w):op.wp P a w K Q :=
 wp_load_mid ty x ho b o hx vs d (hB.range hs) hu hd hi h
theorem Ai (hgd:op.guard=none) (ty:TypeId) (x:Operand) (ho:op.op=.load ty x) (b o:Nat) (hx:a.eval x=.pointer (some ⟨b,o,none⟩)) {t:TypeId} {cs:Array Value} (hB:Blk w b t cs) (vs:List Value) (hs:(cs.toList.drop o).take vs.length=vs) (d:TypeDesc)
  (hu:P.underlying ty=some d) (hd:d.isRow=true) (hi:(P.info? ty).map (·.size)=some vs.length) (h:wpList P ops Q rest (a.put op.dst (.agg vs.toArray)) w):wpList P ops Q (op :: rest) a w :=
 wpList_plain hgd fun _ hK=>Lt ty x ho b o hx hB vs hs d hu hd hi (hK _ _ h)
theorem Kc (ty:TypeId) (x y:Operand) (ho:op.op=.store ty x y) (b o:Nat) (hx:a.eval x=.pointer (some ⟨b,o,none⟩)) {t:TypeId} {cs:Array Value} (hB:Blk w b t cs) (vs:List Value) (hy:a.eval y=.agg vs.toArray) (hl:o+vs.length≤cs.size)
  (hi:(P.info? ty).map (·.size)=some vs.length) (h1:vs.all (·.oneCell')=true) (h:∀ w',Blk w' b t (setA cs o vs)→Chg (·=b) w w'→w'.heap.size=w.heap.size→K (a.put op.dst undef) w'):op.wp P a w K Q :=
 wp_store_mid ty x y ho b o vs.toArray hx hy (by simpa using hB.thereB hl) (by simpa using hi) (all_oneCell_toArray fun v hv=>List.all_eq_true.1 h1 v hv)
  (by simpa using h _ (hB.setCells vs o) (Fg b vs w w o (Chg.refl _ _)) (EE b vs w o))
theorem Br (hgd:op.guard=none) (hdst:op.dst=none) (ty:TypeId) (x y:Operand) (ho:op.op=.store ty x y) (b o:Nat) (hx:a.eval x=.pointer (some ⟨b,o,none⟩)) {t:TypeId} {cs:Array Value} (hB:Blk w b t cs) (vs:List Value) (hy:a.eval y=.agg vs.toArray) (hl:o+vs.length≤cs.size)
  (hi:(P.info? ty).map (·.size)=some vs.length) (h1:vs.all (·.oneCell')=true) (h:∀ w',Blk w' b t (setA cs o vs)→Chg (·=b) w w'→w'.heap.size=w.heap.size→wpList P ops Q rest a w'):wpList P ops Q (op :: rest) a w :=
 wpList_plain hgd fun _ hK=>Kc ty x y ho b o hx hB vs hy hl hi h1 fun w' k1 k2 k3=>by rw [hdst];exact hK _ _ (h w' k1 k2 k3)
end
section
variable {P:Program}
theorem EF {W:World} {q o:Nat} {t:TypeId} {cs:Array Value} (ty:TypeId) (hB:Blk W q t cs) (vs:List Value) (hs:(cs.toList.drop o).take vs.length=vs) (d:TypeDesc)
  (hu:P.underlying ty=some d) (hd:d.isRow=true) (hi:(P.info? ty).map (·.size)=some vs.length):(loadVar ty ⟨q,o,none⟩).run P W=.ok (.agg vs.toArray) W :=
 run_loadVar_mid W q o ty vs d (hB.range hs) hu hd hi
theorem Eo {fn:Func} {F:Array Value} {W:World} {i:Nat} {ty:TypeId} {q:Nat} {v:Value} (hr:fn.results=#[.cell i ty]) (hF:F[i]?=some (.pointer (some ⟨q,0,none⟩))) (hl:(loadVar ty ⟨q,0,none⟩).run P W=.ok v W):Sem.run P (results fn F) W=.ok v W:=by
 unfold results
 rw [hr]
 generalize loadVar=LV at *
 simp [go_sem,hF,hl]
end
end Go.Proofs.YteklkljndchjiaaGreat
namespace Go.Proofs.YteklkljndchjiaaGreat
open Go Go.RowKit Go.Deep Go.Maps Go.ChangeMaps
abbrev ruleL (wd:Bool) (sl gn ka kb np a b c d G:Int):List Value:=[.bool wd,.int .i64 sl,.int .i64 gn,.int .u64 ka,.int .u64 kb,.int .i64 np,.int .i64 a,.int .i64 b,.int .i64 c,.int .i64 d,.int .i64 G]
abbrev Fx (nw:Bool) (ns ng:Int) (ww:Bool) (ws wg ka kb np a b c d G:Int):List Value:=[.bool nw,.int .i64 ns,.int .i64 ng,.bool ww,.int .i64 ws,.int .i64 wg,.int .u64 ka,.int .u64 kb,.int .i64 np,.int .i64 a,.int .i64 b,.int .i64 c,.int .i64 d,.int .i64 G]
theorem N8 (a b c d e f:Value) (W:World):(Instr.index 236 (.agg #[a,b,c,d,e,f]) (.int .i64 0)).run Tryz.prog W=.ok (.agg #[a,b,c]) W:=by kernel_rfl
theorem N9 (a b c d e f:Value) (W:World):(Instr.index 236 (.agg #[a,b,c,d,e,f]) (.int .i64 1)).run Tryz.prog W=.ok (.agg #[d,e,f]) W:=by kernel_rfl
set_option maxRecDepth 100000 in
set_option maxHeartbeats 8000000 in
theorem QV (nw:Bool) (ns ng:Int) (ww:Bool) (ws wg ka kb np a b c d G:Int) (w:World):Calls Tryz.prog 102 #[.agg (Fx nw ns ng ww ws wg ka kb np a b c d G).toArray] w fun e w'=>e=.returned (.agg (ruleL nw ns ng ka kb np a b c d G ++ ruleL ww ws wg ka kb np a b c d G).toArray)∧Below w.heap.size w w':=by
 have i0:=fun W=>N8 (.bool nw) (.int .i64 ns) (.int .i64 ng) (.bool ww) (.int .i64 ws) (.int .i64 wg) W
 have i1:=fun W=>N9 (.bool nw) (.int .i64 ns) (.int .i64 ng) (.bool ww) (.int .i64 ws) (.int .i64 wg) W
 go_enter Tryz.func102,Tryz.ntmps102
 go_upto_region 1 with fail
 change Code.wp _ _ _ _ ((w.alloc (.cells (Fx nw ns ng ww ws wg ka kb np a b c d G).toArray 75)).alloc (.cells #[.bool false,.int .i64 0,.int .i64 0,.int .u64 0,.int .u64 0,.int .i64 0,.int .i64 0,.int .i64 0,.int .i64 0,.int .i64 0,.int .i64 0,.bool false,.int .i64 0,.int .i64 0,.int .u64 0,.int .u64 0,.int .i64 0,.int .i64 0,.int .i64 0,.int .i64 0,.int .i64 0,.int .i64 0] 151))
 have B1:=(Blk.new w 75 (Fx nw ns ng ww ws wg ka kb np a b c d G).toArray).alloc (.cells #[.bool false,.int .i64 0,.int .i64 0,.int .u64 0,.int .u64 0,.int .i64 0,.int .i64 0,.int .i64 0,.int .i64 0,.int .i64 0,.int .i64 0,.bool false,.int .i64 0,.int .i64 0,.int .u64 0,.int .u64 0,.int .i64 0,.int .i64 0,.int .i64 0,.int .i64 0,.int .i64 0,.int .i64 0] 151)
 have B2:Blk ((w.alloc (.cells (Fx nw ns ng ww ws wg ka kb np a b c d G).toArray 75)).alloc (.cells #[.bool false,.int .i64 0,.int .i64 0,.int .u64 0,.int .u64 0,.int .i64 0,.int .i64 0,.int .i64 0,.int .i64 0,.int .i64 0,.int .i64 0,.bool false,.int .i64 0,.int .i64 0,.int .u64 0,.int .u64 0,.int .i64 0,.int .i64 0,.int .i64 0,.int .i64 0,.int .i64 0,.int .i64 0] 151)) (w.alloc (.cells (Fx nw ns ng ww ws wg ka kb np a b c d G).toArray 75)).heap.size 151 #[.bool false,.int .i64 0,.int .i64 0,.int .u64 0,.int .u64 0,.int .i64 0,.int .i64 0,.int .i64 0,.int .i64 0,.int .i64 0,.int .i64 0,.bool false,.int .i64 0,.int .i64 0,.int .u64 0,.int .u64 0,.int .i64 0,.int .i64 0,.int .i64 0,.int .i64 0,.int .i64 0,.int .i64 0]:=Blk.new _ _ _
 have hb0:Below w.heap.size w ((w.alloc (.cells (Fx nw ns ng ww ws wg ka kb np a b c d G).toArray 75)).alloc (.cells #[.bool false,.int .i64 0,.int .i64 0,.int .u64 0,.int .u64 0,.int .i64 0,.int .i64 0,.int .i64 0,.int .i64 0,.int .i64 0,.int .i64 0,.bool false,.int .i64 0,.int .i64 0,.int .u64 0,.int .u64 0,.int .i64 0,.int .i64 0,.int .i64 0,.int .i64 0,.int .i64 0,.int .i64 0] 151)):=Aa (Aa (Below.refl _ _) _) _
 rw [World.size_alloc] at B2
 generalize (w.alloc (.cells (Fx nw ns ng ww ws wg ka kb np a b c d G).toArray 75)).alloc (.cells #[.bool false,.int .i64 0,.int .i64 0,.int .u64 0,.int .u64 0,.int .i64 0,.int .i64 0,.int .i64 0,.int .i64 0,.int .i64 0,.int .i64 0,.bool false,.int .i64 0,.int .i64 0,.int .u64 0,.int .u64 0,.int .i64 0,.int .i64 0,.int .i64 0,.int .i64 0,.int .i64 0,.int .i64 0] 151)=w1 at *
 obtain ⟨rk,hrk⟩:∃ r,w.heap.size=r:=⟨_,rfl⟩
 rw [hrk] at B1 B2 hb0
 try rw [hrk]
 have l1:=B1.lt
 have l2:=B2.lt
 go_upto_region 2 with (with_reducible refine Br rfl rfl 151 (.tmp 3) (.tmp 6) rfl w1.heap.size 0 rfl (Blk.new w1 151 #[.bool false,.int .i64 0,.int .i64 0,.int .u64 0,.int .u64 0,.int .i64 0,.int .i64 0,.int .i64 0,.int .i64 0,.int .i64 0,.int .i64 0,.bool false,.int .i64 0,.int .i64 0,.int .u64 0,.int .u64 0,.int .i64 0,.int .i64 0,.int .i64 0,.int .i64 0,.int .i64 0,.int .i64 0]) [.bool false,.int .i64 0,.int .i64 0,.int .u64 0,.int .u64 0,.int .i64 0,.int .i64 0,.int .i64 0,.int .i64 0,.int .i64 0,.int .i64 0,.bool false,.int .i64 0,.int .i64 0,.int .u64 0,.int .u64 0,.int .i64 0,.int .i64 0,.int .i64 0,.int .i64 0,.int .i64 0,.int .i64 0] rfl (Nat.le_of_ble_eq_true (by kernel_rfl)) (by kernel_rfl) rfl ?_;intro wo B3 hc hz)
 have hn:=w1.size_alloc (.cells #[.bool false,.int .i64 0,.int .i64 0,.int .u64 0,.int .u64 0,.int .i64 0,.int .i64 0,.int .i64 0,.int .i64 0,.int .i64 0,.int .i64 0,.bool false,.int .i64 0,.int .i64 0,.int .u64 0,.int .u64 0,.int .i64 0,.int .i64 0,.int .i64 0,.int .i64 0,.int .i64 0,.int .i64 0] 151)
 have kk:Chg (·=w1.heap.size) w1 wo:=(Chg.of_below (F:=(·=w1.heap.size)) (Aa (Below.refl w1.heap.size w1) (.cells #[.bool false,.int .i64 0,.int .i64 0,.int .u64 0,.int .u64 0,.int .i64 0,.int .i64 0,.int .i64 0,.int .i64 0,.int .i64 0,.int .i64 0,.bool false,.int .i64 0,.int .i64 0,.int .u64 0,.int .u64 0,.int .i64 0,.int .i64 0,.int .i64 0,.int .i64 0,.int .i64 0,.int .i64 0] 151))).trans hc (fun _ _ h=>h)
 replace B1:=B1.chg kk (fun e=>by omega)
 replace B2:=B2.chg kk (fun e=>by omega)
 replace B3:Blk wo w1.heap.size 151 #[.bool false,.int .i64 0,.int .i64 0,.int .u64 0,.int .u64 0,.int .i64 0,.int .i64 0,.int .i64 0,.int .i64 0,.int .i64 0,.int .i64 0,.bool false,.int .i64 0,.int .i64 0,.int .u64 0,.int .u64 0,.int .i64 0,.int .i64 0,.int .i64 0,.int .i64 0,.int .i64 0,.int .i64 0]:=B3
 replace hb0:=Ar hb0 kk (fun y hy e=>by have e2:y=w1.heap.size:=e;omega) (by omega)
 obtain ⟨ro,hro⟩:∃ r,w1.heap.size=r:=⟨_,rfl⟩
 rw [hro] at B3 l1 l2
 try rw [hro]
 clear kk hc hz hn
 go_upto_region 3 with (first
  | (with_reducible refine Ai rfl 23 (.tmp 7) rfl rk 0 rfl B1 [.bool nw,.int .i64 ns,.int .i64 ng] rfl _ Tryz.underlying23 rfl (by kernel_rfl) ?_)
  | (with_reducible refine Ai rfl 23 (.tmp 9) rfl rk 3 rfl B1 [.bool ww,.int .i64 ws,.int .i64 wg] rfl _ Tryz.underlying23 rfl (by kernel_rfl) ?_))
 refine wp_loop_rounds 3 ?_
 rw [rounds_succ]
 go_upto_region 5 with fail
 change Code.wp _ _ _ _ (wo.alloc (.cells #[.bool nw,.int .i64 ns,.int .i64 ng] 23))
 have hv0:=Blk.new wo 23 #[.bool nw,.int .i64 ns,.int .i64 ng]
 have kk0:Below wo.heap.size wo (wo.alloc (.cells #[.bool nw,.int .i64 ns,.int .i64 ng] 23)):=Aa (Below.refl _ _) _
 have hz0':wo.heap.size<(wo.alloc (.cells #[.bool nw,.int .i64 ns,.int .i64 ng] 23)).heap.size:=hv0.lt
 generalize wo.alloc (.cells #[.bool nw,.int .i64 ns,.int .i64 ng] 23)=v0 at *
 have l1:=B1.lt
 have l2:=B2.lt
 have l3:=B3.lt
 replace B1:=B1.call kk0
 replace B2:=B2.call kk0
 replace B3:=B3.call kk0
 replace hb0:=Ah kk0 hb0 (by omega)
 have c8:v0.cell? ⟨rk,8,none⟩=some (.int .i64 np):=B1.cell 8
 have c13:v0.cell? ⟨rk,13,none⟩=some (.int .i64 G):=B1.cell 13
 clear kk0 l1 l2 l3
 go_upto_region 6 with (first
  | (with_reducible refine Ai rfl 23 (.tmp 5) rfl wo.heap.size 0 rfl hv0 [.bool nw,.int .i64 ns,.int .i64 ng] rfl _ Tryz.underlying23 rfl (by kernel_rfl) ?_)
  | (with_reducible refine Ai rfl 26 (.tmp 18) rfl rk 6 rfl B1 [.int .u64 ka,.int .u64 kb] rfl _ Tryz.underlying26 rfl (by kernel_rfl) ?_)
  | (with_reducible refine Ai rfl 28 (.tmp 22) rfl rk 9 rfl B1 [.int .i64 a,.int .i64 b,.int .i64 c,.int .i64 d] rfl _ Tryz.underlying28 rfl (by kernel_rfl) ?_)
  | (with_reducible refine Br rfl rfl 38 (.tmp 27) (.tmp 26) rfl ro 0 rfl B3 [.bool nw,.int .i64 ns,.int .i64 ng,.int .u64 ka,.int .u64 kb,.int .i64 np,.int .i64 a,.int .i64 b,.int .i64 c,.int .i64 d,.int .i64 G] rfl (Nat.le_of_ble_eq_true (by kernel_rfl)) (by kernel_rfl) rfl ?_;intro w2 hB2 hc0 hz0))
 replace B1:=B1.chg hc0 (fun e=>by omega)
 replace B2:=B2.chg hc0 (fun e=>by omega)
 replace B3:Blk w2 ro 151 #[.bool nw,.int .i64 ns,.int .i64 ng,.int .u64 ka,.int .u64 kb,.int .i64 np,.int .i64 a,.int .i64 b,.int .i64 c,.int .i64 d,.int .i64 G,.bool false,.int .i64 0,.int .i64 0,.int .u64 0,.int .u64 0,.int .i64 0,.int .i64 0,.int .i64 0,.int .i64 0,.int .i64 0,.int .i64 0]:=hB2
 replace hb0:=Ar hb0 hc0 (fun y hy e=>by have e2:y=ro:=e;omega) (by have:=hb0.size;have:=hv0.lt;omega)
 clear hB2 hc0 hz0 hz0' hv0 c8 c13
 go_wp2_with fail
 rw [rounds_succ]
 go_upto_region 5 with fail
 change Code.wp _ _ _ _ (w2.alloc (.cells #[.bool ww,.int .i64 ws,.int .i64 wg] 23))
 have hv1:=Blk.new w2 23 #[.bool ww,.int .i64 ws,.int .i64 wg]
 have kk1:Below w2.heap.size w2 (w2.alloc (.cells #[.bool ww,.int .i64 ws,.int .i64 wg] 23)):=Aa (Below.refl _ _) _
 have hz1':w2.heap.size<(w2.alloc (.cells #[.bool ww,.int .i64 ws,.int .i64 wg] 23)).heap.size:=hv1.lt
 generalize w2.alloc (.cells #[.bool ww,.int .i64 ws,.int .i64 wg] 23)=v1 at *
 have l1:=B1.lt
 have l2:=B2.lt
 have l3:=B3.lt
 replace B1:=B1.call kk1
 replace B2:=B2.call kk1
 replace B3:=B3.call kk1
 replace hb0:=Ah kk1 hb0 (by omega)
 have c8:v1.cell? ⟨rk,8,none⟩=some (.int .i64 np):=B1.cell 8
 have c13:v1.cell? ⟨rk,13,none⟩=some (.int .i64 G):=B1.cell 13
 clear kk1 l1 l2 l3
 go_upto_region 6 with (first
  | (with_reducible refine Ai rfl 23 (.tmp 5) rfl w2.heap.size 0 rfl hv1 [.bool ww,.int .i64 ws,.int .i64 wg] rfl _ Tryz.underlying23 rfl (by kernel_rfl) ?_)
  | (with_reducible refine Ai rfl 26 (.tmp 18) rfl rk 6 rfl B1 [.int .u64 ka,.int .u64 kb] rfl _ Tryz.underlying26 rfl (by kernel_rfl) ?_)
  | (with_reducible refine Ai rfl 28 (.tmp 22) rfl rk 9 rfl B1 [.int .i64 a,.int .i64 b,.int .i64 c,.int .i64 d] rfl _ Tryz.underlying28 rfl (by kernel_rfl) ?_)
  | (with_reducible refine Br rfl rfl 38 (.tmp 27) (.tmp 26) rfl ro 11 rfl B3 [.bool ww,.int .i64 ws,.int .i64 wg,.int .u64 ka,.int .u64 kb,.int .i64 np,.int .i64 a,.int .i64 b,.int .i64 c,.int .i64 d,.int .i64 G] rfl (Nat.le_of_ble_eq_true (by kernel_rfl)) (by kernel_rfl) rfl ?_;intro w3 hB3 hc1 hz1))
 replace B1:=B1.chg hc1 (fun e=>by omega)
 replace B2:=B2.chg hc1 (fun e=>by omega)
 replace B3:Blk w3 ro 151 #[.bool nw,.int .i64 ns,.int .i64 ng,.int .u64 ka,.int .u64 kb,.int .i64 np,.int .i64 a,.int .i64 b,.int .i64 c,.int .i64 d,.int .i64 G,.bool ww,.int .i64 ws,.int .i64 wg,.int .u64 ka,.int .u64 kb,.int .i64 np,.int .i64 a,.int .i64 b,.int .i64 c,.int .i64 d,.int .i64 G]:=hB3
 replace hb0:=Ar hb0 hc1 (fun y hy e=>by have e2:y=ro:=e;omega) (by have:=hb0.size;have:=hv1.lt;omega)
 clear hB3 hc1 hz1 hz1' hv1 c8 c13
 go_wp2_with fail
 rw [rounds_succ]
 go_wp2_with (first
  | (with_reducible refine Ai rfl 151 (.tmp 3) rfl ro 0 rfl B3 [.bool nw,.int .i64 ns,.int .i64 ng,.int .u64 ka,.int .u64 kb,.int .i64 np,.int .i64 a,.int .i64 b,.int .i64 c,.int .i64 d,.int .i64 G,.bool ww,.int .i64 ws,.int .i64 wg,.int .u64 ka,.int .u64 kb,.int .i64 np,.int .i64 a,.int .i64 b,.int .i64 c,.int .i64 d,.int .i64 G] rfl _ Tryz.underlying151 rfl (by kernel_rfl) ?_)
  | (with_reducible refine Br rfl rfl 151 (.tmp 2) (.tmp 29) rfl (rk+1) 0 rfl B2 [.bool nw,.int .i64 ns,.int .i64 ng,.int .u64 ka,.int .u64 kb,.int .i64 np,.int .i64 a,.int .i64 b,.int .i64 c,.int .i64 d,.int .i64 G,.bool ww,.int .i64 ws,.int .i64 wg,.int .u64 ka,.int .u64 kb,.int .i64 np,.int .i64 a,.int .i64 b,.int .i64 c,.int .i64 d,.int .i64 G] rfl (Nat.le_of_ble_eq_true (by kernel_rfl)) (by kernel_rfl) rfl ?_;intro w4 hB4 hc4 hz4))
 replace hb0:=Ar hb0 hc4 (fun y hy e=>by have e2:y=rk+1:=e;omega) (by have:=B1.lt;omega)
 refine bodyPost_ret (v:=.agg #[.bool nw,.int .i64 ns,.int .i64 ng,.int .u64 ka,.int .u64 kb,.int .i64 np,.int .i64 a,.int .i64 b,.int .i64 c,.int .i64 d,.int .i64 G,.bool ww,.int .i64 ws,.int .i64 wg,.int .u64 ka,.int .u64 kb,.int .i64 np,.int .i64 a,.int .i64 b,.int .i64 c,.int .i64 d,.int .i64 G]) (Eo rfl rfl (EF 151 hB4 [.bool nw,.int .i64 ns,.int .i64 ng,.int .u64 ka,.int .u64 kb,.int .i64 np,.int .i64 a,.int .i64 b,.int .i64 c,.int .i64 d,.int .i64 G,.bool ww,.int .i64 ws,.int .i64 wg,.int .u64 ka,.int .u64 kb,.int .i64 np,.int .i64 a,.int .i64 b,.int .i64 c,.int .i64 d,.int .i64 G] rfl _ Tryz.underlying151 rfl (by kernel_rfl))) rfl ?_
 exact ⟨rfl,by rw [hrk];exact hb0⟩
end Go.Proofs.YteklkljndchjiaaGreat
