/- stateful: the document's rules, and its new keeper. stateful: the document's Live, Drop and Go. stateful: the document's Live and New. -/
import Derived.Test.YteklkljndchjiaaGreatJ53
import Derived.Test.YteklkljndchjiaaGreatJ52
import Derived.Test.YteklkljndchjiaaGreatJ47
namespace Go.Proofs.YteklkljndchjiaaGreat
open Go Go.RowKit Go.Deep Go.Maps Go.ChangeMaps
@[reducible] def KrAt (rt:Nat) (r:KRule) (W:World):Prop:=W.cell? ⟨rt,0,none⟩=some (.bool r.nw)∧W.cell? ⟨rt,1,none⟩=some (.int .i64 r.ns)∧W.cell? ⟨rt,2,none⟩=some (.int .i64 r.ng)∧W.cell? ⟨rt,3,none⟩=some (.bool r.ww)∧W.cell? ⟨rt,4,none⟩=some (.int .i64 r.ws)∧W.cell? ⟨rt,5,none⟩=some (.int .i64 r.wg)∧W.cell? ⟨rt,6,none⟩=some (.int .u64 r.ka)∧W.cell? ⟨rt,7,none⟩=some (.int .u64 r.kb)∧W.cell? ⟨rt,8,none⟩=some (.int .i64 r.np)∧W.cell? ⟨rt,9,none⟩=some (.int .i64 r.a)∧W.cell? ⟨rt,10,none⟩=some (.int .i64 r.b)∧W.cell? ⟨rt,11,none⟩=some (.int .i64 r.c)∧W.cell? ⟨rt,12,none⟩=some (.int .i64 r.d)∧W.cell? ⟨rt,13,none⟩=some (.int .i64 r.G)
theorem KrAt.call {rt:Nat} {r:KRule} {W W':World} (h:KrAt rt r W) (hb:Below W.heap.size W W'):KrAt rt r W':=by
 obtain ⟨h0,h1,h2,h3,h4,h5,h6,h7,h8,h9,h10,h11,h12,h13⟩:=h
 exact ⟨(hb.cell (A0 h0)).trans h0,(hb.cell (A0 h1)).trans h1,(hb.cell (A0 h2)).trans h2,(hb.cell (A0 h3)).trans h3,(hb.cell (A0 h4)).trans h4,(hb.cell (A0 h5)).trans h5,(hb.cell (A0 h6)).trans h6,(hb.cell (A0 h7)).trans h7,(hb.cell (A0 h8)).trans h8,(hb.cell (A0 h9)).trans h9,(hb.cell (A0 h10)).trans h10,(hb.cell (A0 h11)).trans h11,(hb.cell (A0 h12)).trans h12,(hb.cell (A0 h13)).trans h13⟩
theorem KrAt.of {rt:Nat} {r:KRule} {W:World} {t:TypeId} (h:Blk W rt t r.cells.toArray):KrAt rt r W:=⟨h.cell 0,h.cell 1,h.cell 2,h.cell 3,h.cell 4,h.cell 5,h.cell 6,h.cell 7,h.cell 8,h.cell 9,h.cell 10,h.cell 11,h.cell 12,h.cell 13⟩
def EO (r:KRule):Bool:=decide (r.ns≤3) && decide (r.ws≤3) && decide (r.np≤4)
set_option maxRecDepth 100000 in
theorem Dj (r:KRule) (wd:Bool) (sl gn:Int) (w:World):Calls Tryz.prog 100 #[r.val,.agg #[.bool wd,.int .i64 sl,.int .i64 gn]] w fun e w'=>e=.returned (.agg #[.bool wd,.int .i64 sl,.int .i64 gn,.int .u64 r.ka,.int .u64 r.kb,.int .i64 r.np,.int .i64 r.a,.int .i64 r.b,.int .i64 r.c,.int .i64 r.d,.int .i64 r.G])∧Below w.heap.size w w':=by
 have B1:=(Blk.new w 70 r.cells.toArray).alloc (.cells #[.bool wd,.int .i64 sl,.int .i64 gn] 23)
 have hb0:Below w.heap.size w ((w.alloc (.cells r.cells.toArray 70)).alloc (.cells #[.bool wd,.int .i64 sl,.int .i64 gn] 23)):=Aa (Aa (Below.refl _ _) _) _
 have B2:Blk ((w.alloc (.cells r.cells.toArray 70)).alloc (.cells #[.bool wd,.int .i64 sl,.int .i64 gn] 23)) (w.alloc (.cells r.cells.toArray 70)).heap.size 23 #[.bool wd,.int .i64 sl,.int .i64 gn]:=Blk.new _ _ _
 rw [World.size_alloc] at B2
 go_enter Tryz.func100,Tryz.ntmps100
 go_upto_region 1 with fail
 change Code.wp _ _ _ _ (((w.alloc (.cells r.cells.toArray 70)).alloc (.cells #[.bool wd,.int .i64 sl,.int .i64 gn] 23)).alloc (.cells #[.bool false,.int .i64 0,.int .i64 0,.int .u64 0,.int .u64 0,.int .i64 0,.int .i64 0,.int .i64 0,.int .i64 0,.int .i64 0,.int .i64 0] 30))
 have hsz:((w.alloc (.cells r.cells.toArray 70)).alloc (.cells #[.bool wd,.int .i64 sl,.int .i64 gn] 23)).heap.size=w.heap.size+1+1:=by rw [World.size_alloc,World.size_alloc]
 generalize (w.alloc (.cells r.cells.toArray 70)).alloc (.cells #[.bool wd,.int .i64 sl,.int .i64 gn] 23)=w1 at *
 obtain ⟨rk,hrk⟩:∃ r,w.heap.size=r:=⟨_,rfl⟩
 rw [hrk] at B1 B2 hb0 hsz
 try rw [hrk]
 have B3:=Blk.new w1 30 #[.bool false,.int .i64 0,.int .i64 0,.int .u64 0,.int .u64 0,.int .i64 0,.int .i64 0,.int .i64 0,.int .i64 0,.int .i64 0,.int .i64 0]
 have hb1:Below w1.heap.size w1 (w1.alloc (.cells #[.bool false,.int .i64 0,.int .i64 0,.int .u64 0,.int .u64 0,.int .i64 0,.int .i64 0,.int .i64 0,.int .i64 0,.int .i64 0,.int .i64 0] 30)):=Aa (Below.refl _ _) _
 have l2:=B2.lt
 replace B1:=B1.call hb1
 replace B2:=B2.call hb1
 replace hb0:=Ah hb1 hb0 (by omega)
 generalize w1.alloc (.cells #[.bool false,.int .i64 0,.int .i64 0,.int .u64 0,.int .u64 0,.int .i64 0,.int .i64 0,.int .i64 0,.int .i64 0,.int .i64 0,.int .i64 0] 30)=w2 at *
 rw [hsz] at B3 l2
 have c8:w2.cell? ⟨rk,8,none⟩=some (.int .i64 r.np):=B1.cell 8
 have c13:w2.cell? ⟨rk,13,none⟩=some (.int .i64 r.G):=B1.cell 13
 have hlr:=B3.lt
 clear hb1
 go_wp2_with (first
  | (with_reducible refine Ai rfl 23 (.tmp 3) rfl (rk+1) 0 rfl B2 [.bool wd,.int .i64 sl,.int .i64 gn] rfl _ Tryz.underlying23 rfl (by kernel_rfl) ?_)
  | (with_reducible refine Ai rfl 26 (.tmp 6) rfl rk 6 rfl B1 [.int .u64 r.ka,.int .u64 r.kb] rfl _ Tryz.underlying26 rfl (by kernel_rfl) ?_)
  | (with_reducible refine Ai rfl 28 (.tmp 10) rfl rk 9 rfl B1 [.int .i64 r.a,.int .i64 r.b,.int .i64 r.c,.int .i64 r.d] rfl _ Tryz.underlying28 rfl (by kernel_rfl) ?_)
  | (with_reducible refine Br rfl rfl 30 (.tmp 4) (.tmp 14) rfl (rk+1+1) 0 rfl B3 [.bool wd,.int .i64 sl,.int .i64 gn,.int .u64 r.ka,.int .u64 r.kb,.int .i64 r.np,.int .i64 r.a,.int .i64 r.b,.int .i64 r.c,.int .i64 r.d,.int .i64 r.G] rfl (Nat.le_of_ble_eq_true (by kernel_rfl)) (by kernel_rfl) rfl ?_;intro w4 hB4 hc4 hz4))
 replace hb0:=Ar hb0 hc4 (fun y hy e=>by have e2:y=rk+1+1:=e;omega) (by omega)
 refine bodyPost_ret (v:=.agg #[.bool wd,.int .i64 sl,.int .i64 gn,.int .u64 r.ka,.int .u64 r.kb,.int .i64 r.np,.int .i64 r.a,.int .i64 r.b,.int .i64 r.c,.int .i64 r.d,.int .i64 r.G]) (Eo rfl rfl (EF 30 hB4 [.bool wd,.int .i64 sl,.int .i64 gn,.int .u64 r.ka,.int .u64 r.kb,.int .i64 r.np,.int .i64 r.a,.int .i64 r.b,.int .i64 r.c,.int .i64 r.d,.int .i64 r.G] rfl _ Tryz.underlying30 rfl (by kernel_rfl))) rfl ?_
 exact ⟨rfl,by rw [hrk];exact hb0⟩
theorem Oe (r:KRule) (w:World):Calls Tryz.prog 7 #[.agg r.l1.toArray] w fun e w'=>e=.returned (.bool (AF r.r1))∧Below w.heap.size w w':=EM r.r1 w
theorem Og (r:KRule) (w:World):Calls Tryz.prog 7 #[.agg r.l2.toArray] w fun e w'=>e=.returned (.bool (AF r.r2))∧Below w.heap.size w w':=EM r.r2 w
set_option maxRecDepth 100000 in
set_option maxHeartbeats 8000000 in
theorem Gy (nw ww:Bool) (ns ng ws wg ka kb np a b c d G:Int) (h:nw=true∨ww=false) (w:World):Calls Tryz.prog 34 #[.agg #[.bool nw,.int .i64 ns,.int .i64 ng,.bool ww,.int .i64 ws,.int .i64 wg,.int .u64 ka,.int .u64 kb,.int .i64 np,.int .i64 a,.int .i64 b,.int .i64 c,.int .i64 d,.int .i64 G]] w fun e w'=>e=.returned (.bool false)∧Below w.heap.size w w':=by
 cases hn:nw
 ·
  obtain rfl:ww=false:=by rcases h with h | h <;> simp_all
  subst hn
  have B1:=Blk.new w 70 #[.bool false,.int .i64 ns,.int .i64 ng,.bool false,.int .i64 ws,.int .i64 wg,.int .u64 ka,.int .u64 kb,.int .i64 np,.int .i64 a,.int .i64 b,.int .i64 c,.int .i64 d,.int .i64 G]
  have hb0:Below w.heap.size w (w.alloc (.cells #[.bool false,.int .i64 ns,.int .i64 ng,.bool false,.int .i64 ws,.int .i64 wg,.int .u64 ka,.int .u64 kb,.int .i64 np,.int .i64 a,.int .i64 b,.int .i64 c,.int .i64 d,.int .i64 G] 70)):=Aa (Below.refl _ _) _
  go_enter Tryz.func34,Tryz.ntmps34
  go_upto_region 1 with fail
  change Code.wp _ _ _ _ (w.alloc (.cells #[.bool false,.int .i64 ns,.int .i64 ng,.bool false,.int .i64 ws,.int .i64 wg,.int .u64 ka,.int .u64 kb,.int .i64 np,.int .i64 a,.int .i64 b,.int .i64 c,.int .i64 d,.int .i64 G] 70))
  generalize w.alloc (.cells #[.bool false,.int .i64 ns,.int .i64 ng,.bool false,.int .i64 ws,.int .i64 wg,.int .u64 ka,.int .u64 kb,.int .i64 np,.int .i64 a,.int .i64 b,.int .i64 c,.int .i64 d,.int .i64 G] 70)=w1 at *
  obtain ⟨rk,hrk⟩:∃ r,w.heap.size=r:=⟨_,rfl⟩
  rw [hrk] at B1 hb0
  try rw [hrk]
  have hz:=B1.lt
  have c0:w1.cell? ⟨rk,0,none⟩=some (.bool false):=B1.cell 0
  have c1:w1.cell? ⟨rk,1,none⟩=some (.int .i64 ns):=B1.cell 1
  have c2:w1.cell? ⟨rk,2,none⟩=some (.int .i64 ng):=B1.cell 2
  have c3:w1.cell? ⟨rk,3,none⟩=some (.bool false):=B1.cell 3
  have c4:w1.cell? ⟨rk,4,none⟩=some (.int .i64 ws):=B1.cell 4
  have c5:w1.cell? ⟨rk,5,none⟩=some (.int .i64 wg):=B1.cell 5
  have c6:w1.cell? ⟨rk,6,none⟩=some (.int .u64 ka):=B1.cell 6
  have c7:w1.cell? ⟨rk,7,none⟩=some (.int .u64 kb):=B1.cell 7
  have c8:w1.cell? ⟨rk,8,none⟩=some (.int .i64 np):=B1.cell 8
  have c9:w1.cell? ⟨rk,9,none⟩=some (.int .i64 a):=B1.cell 9
  have c10:w1.cell? ⟨rk,10,none⟩=some (.int .i64 b):=B1.cell 10
  have c11:w1.cell? ⟨rk,11,none⟩=some (.int .i64 c):=B1.cell 11
  have c12:w1.cell? ⟨rk,12,none⟩=some (.int .i64 d):=B1.cell 12
  have c13:w1.cell? ⟨rk,13,none⟩=some (.int .i64 G):=B1.cell 13
  go_wp2_with fail
  go_ret
  exact ⟨rfl,by (try rw [hrk]);exact hb0⟩
 ·
  subst hn
  clear h
  have B1:=Blk.new w 70 #[.bool true,.int .i64 ns,.int .i64 ng,.bool ww,.int .i64 ws,.int .i64 wg,.int .u64 ka,.int .u64 kb,.int .i64 np,.int .i64 a,.int .i64 b,.int .i64 c,.int .i64 d,.int .i64 G]
  have hb0:Below w.heap.size w (w.alloc (.cells #[.bool true,.int .i64 ns,.int .i64 ng,.bool ww,.int .i64 ws,.int .i64 wg,.int .u64 ka,.int .u64 kb,.int .i64 np,.int .i64 a,.int .i64 b,.int .i64 c,.int .i64 d,.int .i64 G] 70)):=Aa (Below.refl _ _) _
  go_enter Tryz.func34,Tryz.ntmps34
  go_upto_region 1 with fail
  change Code.wp _ _ _ _ (w.alloc (.cells #[.bool true,.int .i64 ns,.int .i64 ng,.bool ww,.int .i64 ws,.int .i64 wg,.int .u64 ka,.int .u64 kb,.int .i64 np,.int .i64 a,.int .i64 b,.int .i64 c,.int .i64 d,.int .i64 G] 70))
  generalize w.alloc (.cells #[.bool true,.int .i64 ns,.int .i64 ng,.bool ww,.int .i64 ws,.int .i64 wg,.int .u64 ka,.int .u64 kb,.int .i64 np,.int .i64 a,.int .i64 b,.int .i64 c,.int .i64 d,.int .i64 G] 70)=w1 at *
  obtain ⟨rk,hrk⟩:∃ r,w.heap.size=r:=⟨_,rfl⟩
  rw [hrk] at B1 hb0
  try rw [hrk]
  have hz:=B1.lt
  have c0:w1.cell? ⟨rk,0,none⟩=some (.bool true):=B1.cell 0
  have c1:w1.cell? ⟨rk,1,none⟩=some (.int .i64 ns):=B1.cell 1
  have c2:w1.cell? ⟨rk,2,none⟩=some (.int .i64 ng):=B1.cell 2
  have c3:w1.cell? ⟨rk,3,none⟩=some (.bool ww):=B1.cell 3
  have c4:w1.cell? ⟨rk,4,none⟩=some (.int .i64 ws):=B1.cell 4
  have c5:w1.cell? ⟨rk,5,none⟩=some (.int .i64 wg):=B1.cell 5
  have c6:w1.cell? ⟨rk,6,none⟩=some (.int .u64 ka):=B1.cell 6
  have c7:w1.cell? ⟨rk,7,none⟩=some (.int .u64 kb):=B1.cell 7
  have c8:w1.cell? ⟨rk,8,none⟩=some (.int .i64 np):=B1.cell 8
  have c9:w1.cell? ⟨rk,9,none⟩=some (.int .i64 a):=B1.cell 9
  have c10:w1.cell? ⟨rk,10,none⟩=some (.int .i64 b):=B1.cell 10
  have c11:w1.cell? ⟨rk,11,none⟩=some (.int .i64 c):=B1.cell 11
  have c12:w1.cell? ⟨rk,12,none⟩=some (.int .i64 d):=B1.cell 12
  have c13:w1.cell? ⟨rk,13,none⟩=some (.int .i64 G):=B1.cell 13
  go_wp2_with fail
  go_ret
  exact ⟨rfl,by (try rw [hrk]);exact hb0⟩
set_option maxRecDepth 100000 in
set_option maxHeartbeats 8000000 in
theorem Jm (ns ng ws wg ka kb np a b c d G:Int) (o1 o2:Bool) (w:World) (T1:Hid (∀ W,Calls Tryz.prog 100 #[.agg #[.bool false,.int .i64 ns,.int .i64 ng,.bool true,.int .i64 ws,.int .i64 wg,.int .u64 ka,.int .u64 kb,.int .i64 np,.int .i64 a,.int .i64 b,.int .i64 c,.int .i64 d,.int .i64 G],.agg #[.bool false,.int .i64 ns,.int .i64 ng]] W fun e w'=>e=.returned (.agg #[.bool false,.int .i64 ns,.int .i64 ng,.int .u64 ka,.int .u64 kb,.int .i64 np,.int .i64 a,.int .i64 b,.int .i64 c,.int .i64 d,.int .i64 G])∧Below W.heap.size W w'))
  (T2:Hid (∀ W,Calls Tryz.prog 100 #[.agg #[.bool false,.int .i64 ns,.int .i64 ng,.bool true,.int .i64 ws,.int .i64 wg,.int .u64 ka,.int .u64 kb,.int .i64 np,.int .i64 a,.int .i64 b,.int .i64 c,.int .i64 d,.int .i64 G],.agg #[.bool true,.int .i64 ws,.int .i64 wg]] W fun e w'=>e=.returned (.agg #[.bool true,.int .i64 ws,.int .i64 wg,.int .u64 ka,.int .u64 kb,.int .i64 np,.int .i64 a,.int .i64 b,.int .i64 c,.int .i64 d,.int .i64 G])∧Below W.heap.size W w'))
  (R1:Hid (∀ W,Calls Tryz.prog 7 #[.agg #[.bool false,.int .i64 ns,.int .i64 ng,.int .u64 ka,.int .u64 kb,.int .i64 np,.int .i64 a,.int .i64 b,.int .i64 c,.int .i64 d,.int .i64 G]] W fun e w'=>e=.returned (.bool o1)∧Below W.heap.size W w'))
  (R2:Hid (∀ W,Calls Tryz.prog 7 #[.agg #[.bool true,.int .i64 ws,.int .i64 wg,.int .u64 ka,.int .u64 kb,.int .i64 np,.int .i64 a,.int .i64 b,.int .i64 c,.int .i64 d,.int .i64 G]] W fun e w'=>e=.returned (.bool o2)∧Below W.heap.size W w')) :
  Calls Tryz.prog 34 #[.agg #[.bool false,.int .i64 ns,.int .i64 ng,.bool true,.int .i64 ws,.int .i64 wg,.int .u64 ka,.int .u64 kb,.int .i64 np,.int .i64 a,.int .i64 b,.int .i64 c,.int .i64 d,.int .i64 G]] w fun e w'=>e=.returned (.bool (o1 && o2))∧Below w.heap.size w w':=by
 have B1:=Blk.new w 70 #[.bool false,.int .i64 ns,.int .i64 ng,.bool true,.int .i64 ws,.int .i64 wg,.int .u64 ka,.int .u64 kb,.int .i64 np,.int .i64 a,.int .i64 b,.int .i64 c,.int .i64 d,.int .i64 G]
 have hb0:Below w.heap.size w (w.alloc (.cells #[.bool false,.int .i64 ns,.int .i64 ng,.bool true,.int .i64 ws,.int .i64 wg,.int .u64 ka,.int .u64 kb,.int .i64 np,.int .i64 a,.int .i64 b,.int .i64 c,.int .i64 d,.int .i64 G] 70)):=Aa (Below.refl _ _) _
 go_enter Tryz.func34,Tryz.ntmps34
 go_upto_region 1 with fail
 change Code.wp _ _ _ _ (w.alloc (.cells #[.bool false,.int .i64 ns,.int .i64 ng,.bool true,.int .i64 ws,.int .i64 wg,.int .u64 ka,.int .u64 kb,.int .i64 np,.int .i64 a,.int .i64 b,.int .i64 c,.int .i64 d,.int .i64 G] 70))
 generalize w.alloc (.cells #[.bool false,.int .i64 ns,.int .i64 ng,.bool true,.int .i64 ws,.int .i64 wg,.int .u64 ka,.int .u64 kb,.int .i64 np,.int .i64 a,.int .i64 b,.int .i64 c,.int .i64 d,.int .i64 G] 70)=w1 at *
 obtain ⟨rk,hrk⟩:∃ r,w.heap.size=r:=⟨_,rfl⟩
 rw [hrk] at B1 hb0
 try rw [hrk]
 have hz:=B1.lt
 have c0:w1.cell? ⟨rk,0,none⟩=some (.bool false):=B1.cell 0
 have c1:w1.cell? ⟨rk,1,none⟩=some (.int .i64 ns):=B1.cell 1
 have c2:w1.cell? ⟨rk,2,none⟩=some (.int .i64 ng):=B1.cell 2
 have c3:w1.cell? ⟨rk,3,none⟩=some (.bool true):=B1.cell 3
 have c4:w1.cell? ⟨rk,4,none⟩=some (.int .i64 ws):=B1.cell 4
 have c5:w1.cell? ⟨rk,5,none⟩=some (.int .i64 wg):=B1.cell 5
 have c6:w1.cell? ⟨rk,6,none⟩=some (.int .u64 ka):=B1.cell 6
 have c7:w1.cell? ⟨rk,7,none⟩=some (.int .u64 kb):=B1.cell 7
 have c8:w1.cell? ⟨rk,8,none⟩=some (.int .i64 np):=B1.cell 8
 have c9:w1.cell? ⟨rk,9,none⟩=some (.int .i64 a):=B1.cell 9
 have c10:w1.cell? ⟨rk,10,none⟩=some (.int .i64 b):=B1.cell 10
 have c11:w1.cell? ⟨rk,11,none⟩=some (.int .i64 c):=B1.cell 11
 have c12:w1.cell? ⟨rk,12,none⟩=some (.int .i64 d):=B1.cell 12
 have c13:w1.cell? ⟨rk,13,none⟩=some (.int .i64 G):=B1.cell 13
 have HB:=Lib.hid fun W (hb:Below w1.heap.size w1 W)=>B1.call hb
 cases o1
 ·
  go_wp2_with (first
   | (go_at_call 100;(with_reducible refine (T1.out _).mono ?_);rintro e w2 ⟨rfl,hb2⟩)
   | (go_at_call 7;(with_reducible refine (R1.out _).mono ?_);rintro e w3 ⟨rfl,hb3⟩))
  go_ret
  exact ⟨rfl,by (try rw [hrk]);exact Ah (A8 hb3 hb2) hb0 (by omega)⟩
 ·
  cases o2
  ·
   go_wp2_with (first
    | (go_at_call 100;(with_reducible refine (T1.out _).mono ?_);rintro e w2 ⟨rfl,hb2⟩)
    | (go_at_call 7;(with_reducible refine (R1.out _).mono ?_);rintro e w3 ⟨rfl,hb3⟩;have hb3':=A8 hb3 hb2;replace B1:=HB.out _ hb3';clear c0 c1 c2 c3 c4 c5 c6 c7 c8 c9 c10 c11 c12 c13;have c0:w3.cell? ⟨rk,0,none⟩=some (.bool false):=B1.cell 0;have c1:w3.cell? ⟨rk,1,none⟩=some (.int .i64 ns):=B1.cell 1;have c2:w3.cell? ⟨rk,2,none⟩=some (.int .i64 ng):=B1.cell 2;have c3:w3.cell? ⟨rk,3,none⟩=some (.bool true):=B1.cell 3;have c4:w3.cell? ⟨rk,4,none⟩=some (.int .i64 ws):=B1.cell 4;have c5:w3.cell? ⟨rk,5,none⟩=some (.int .i64 wg):=B1.cell 5;have c6:w3.cell? ⟨rk,6,none⟩=some (.int .u64 ka):=B1.cell 6;have c7:w3.cell? ⟨rk,7,none⟩=some (.int .u64 kb):=B1.cell 7;have c8:w3.cell? ⟨rk,8,none⟩=some (.int .i64 np):=B1.cell 8;have c9:w3.cell? ⟨rk,9,none⟩=some (.int .i64 a):=B1.cell 9;have c10:w3.cell? ⟨rk,10,none⟩=some (.int .i64 b):=B1.cell 10;have c11:w3.cell? ⟨rk,11,none⟩=some (.int .i64 c):=B1.cell 11;have c12:w3.cell? ⟨rk,12,none⟩=some (.int .i64 d):=B1.cell 12;have c13:w3.cell? ⟨rk,13,none⟩=some (.int .i64 G):=B1.cell 13)
    | (go_at_call 100;(with_reducible refine (T2.out _).mono ?_);rintro e w4 ⟨rfl,hb4⟩)
    | (go_at_call 7;(with_reducible refine (R2.out _).mono ?_);rintro e w5 ⟨rfl,hb5⟩))
   go_ret
   exact ⟨rfl,by (try rw [hrk]);exact Ah (A8 hb5 (A8 hb4 hb3')) hb0 (by omega)⟩
  ·
   go_wp2_with (first
    | (go_at_call 100;(with_reducible refine (T1.out _).mono ?_);rintro e w2 ⟨rfl,hb2⟩)
    | (go_at_call 7;(with_reducible refine (R1.out _).mono ?_);rintro e w3 ⟨rfl,hb3⟩;have hb3':=A8 hb3 hb2;replace B1:=HB.out _ hb3';clear c0 c1 c2 c3 c4 c5 c6 c7 c8 c9 c10 c11 c12 c13;have c0:w3.cell? ⟨rk,0,none⟩=some (.bool false):=B1.cell 0;have c1:w3.cell? ⟨rk,1,none⟩=some (.int .i64 ns):=B1.cell 1;have c2:w3.cell? ⟨rk,2,none⟩=some (.int .i64 ng):=B1.cell 2;have c3:w3.cell? ⟨rk,3,none⟩=some (.bool true):=B1.cell 3;have c4:w3.cell? ⟨rk,4,none⟩=some (.int .i64 ws):=B1.cell 4;have c5:w3.cell? ⟨rk,5,none⟩=some (.int .i64 wg):=B1.cell 5;have c6:w3.cell? ⟨rk,6,none⟩=some (.int .u64 ka):=B1.cell 6;have c7:w3.cell? ⟨rk,7,none⟩=some (.int .u64 kb):=B1.cell 7;have c8:w3.cell? ⟨rk,8,none⟩=some (.int .i64 np):=B1.cell 8;have c9:w3.cell? ⟨rk,9,none⟩=some (.int .i64 a):=B1.cell 9;have c10:w3.cell? ⟨rk,10,none⟩=some (.int .i64 b):=B1.cell 10;have c11:w3.cell? ⟨rk,11,none⟩=some (.int .i64 c):=B1.cell 11;have c12:w3.cell? ⟨rk,12,none⟩=some (.int .i64 d):=B1.cell 12;have c13:w3.cell? ⟨rk,13,none⟩=some (.int .i64 G):=B1.cell 13)
    | (go_at_call 100;(with_reducible refine (T2.out _).mono ?_);rintro e w4 ⟨rfl,hb4⟩)
    | (go_at_call 7;(with_reducible refine (R2.out _).mono ?_);rintro e w5 ⟨rfl,hb5⟩))
   go_ret
   exact ⟨rfl,by (try rw [hrk]);exact Ah (A8 hb5 (A8 hb4 hb3')) hb0 (by omega)⟩
theorem CW (r:KRule) (w:World):Calls Tryz.prog 34 #[r.val] w fun e w'=>e=.returned (.bool (Bg r))∧Below w.heap.size w w':=by
 have T1:=Lib.hid fun W=>Dj r r.nw r.ns r.ng W
 have T2:=Lib.hid fun W=>Dj r r.ww r.ws r.wg W
 have R1:=Lib.hid fun W=>Oe r W
 have R2:=Lib.hid fun W=>Og r W
 have hfin:Bg r=(!r.nw && (r.ww && (AF r.r1 && AF r.r2))):=by
  unfold Bg
  cases r.nw <;> cases r.ww <;> cases AF r.r1 <;> cases AF r.r2 <;> rfl
 rw [hfin]
 generalize AF r.r1=o1 at *
 generalize AF r.r2=o2 at *
 clear hfin
 obtain ⟨nw,ns,ng,ww,ws,wg,ka,kb,np,a,b,c,d,G⟩:=r
 cases nw
 ·
  cases ww
  · exact Gy false false ns ng ws wg ka kb np a b c d G (.inr rfl) w
  · exact Jm ns ng ws wg ka kb np a b c d G o1 o2 w T1 T2 R1 R2
 · exact Gy true ww ns ng ws wg ka kb np a b c d G (.inl rfl) w
set_option maxRecDepth 100000 in
theorem Ho (r:KRule) (w:World):Calls Tryz.prog 35 #[r.val] w fun e w'=>e=.returned (.bool (EO r))∧Below w.heap.size w w':=by
 have B1:=KrAt.of (Blk.new w 70 r.cells.toArray)
 have hb0:Below w.heap.size w (w.alloc (.cells r.cells.toArray 70)):=Aa (Below.refl _ _) _
 unfold EO
 obtain ⟨z1,h1⟩:∃ z,decide (r.ns≤3)=z:=⟨_,rfl⟩
 obtain ⟨z2,h2⟩:∃ z,decide (r.ws≤3)=z:=⟨_,rfl⟩
 obtain ⟨z3,h3⟩:∃ z,decide (r.np≤4)=z:=⟨_,rfl⟩
 rw [h1,h2,h3]
 go_enter Tryz.func35,Tryz.ntmps35
 go_upto_region 1 with fail
 change Code.wp _ _ _ _ (w.alloc (.cells r.cells.toArray 70))
 generalize w.alloc (.cells r.cells.toArray 70)=w1 at *
 obtain ⟨rk,hrk⟩:∃ r,w.heap.size=r:=⟨_,rfl⟩
 rw [hrk] at B1 hb0
 try rw [hrk]
 obtain ⟨c0,c1,c2,c3,c4,c5,c6,c7,c8,c9,c10,c11,c12,c13⟩:=B1
 clear c0 c2 c3 c5 c6 c7 c9 c10 c11 c12 c13
 cases z1 <;> cases z2 <;> cases z3 <;> (go_wp2_with fail;go_ret;exact ⟨rfl,by rw [hrk];exact hb0⟩)
theorem QC {c:Int→Nat} {M:LM} {L1 L2:List Slt} (h:LdI M c) (he:∀ y,bkN y (L1 ++ L2)≤c y) (hc:∀ b,c b<1000000) (hm:M.length≤131072):(∀ j (_:j<L1.length),lmPos (AE M (L1.take j))∧AA (AE M (L1.take j))∧(AE M (L1.take j)).length≤140000) ∧
  ∀ j (_:j<L2.length),lmPos (AE (AE M L1) (L2.take j))∧AA (AE (AE M L1) (L2.take j))∧(AE (AE M L1) (L2.take j)).length≤140000:=by
 have k:=Fb (L1 ++ L2) h he hc
 refine ⟨fun j hj=>?_,fun j hj=>?_⟩
 ·
  obtain ⟨-,k2,k3,k4⟩:=k j (by rw [List.length_append];omega)
  rw [List.take_append_of_le_length (by omega)] at k2 k3 k4
  exact ⟨k2,k3,by omega⟩
 ·
  obtain ⟨-,k2,k3,k4⟩:=k (L1.length+j) (by rw [List.length_append];omega)
  rw [List.take_length_add_append,Fl] at k2 k3 k4
  exact ⟨k2,k3,by omega⟩
section
variable {w w':World} {X F:Nat→Prop} {k:DKPtr} {r:KRule} {s:KSt}
theorem Hp (b:Bool) (hI:KI r s) {S0:Bool→Nat→TSt} {M0:LM} {n0:Int} (hS:S0 b=s.S b) (h:Ag k r ⟨S0,M0,n0⟩ w X) (bk:Int):Calls Tryz.prog 25 #[ptr0 (k.gb b),.int .i64 bk] w fun e w'=>∃ (A:Option Addr) (a:Nat),e=.returned (.slice A (CF r s bk b).length a)∧OwnE w' w.heap.size A a (CF r s bk b)∧(Ag k r ⟨updB S0 b (fun i=>AX (r.n b) bk (s.S b i)),M0,n0⟩).ToZ w w' X (InB A):=by
 obtain ⟨X1,h1,-,-,h2⟩:=FR b h
 dsimp only at h1 h2
 rw [hS] at h1
 refine (KO h1 (hI.lk b).ti bk).mono ?_
 rintro e w' ⟨A,a,rfl,hO,hT⟩
 refine ⟨A,a,rfl,hO,h2 _ _ _ (fun y hy hx=>?_) hT⟩
 have:=(hO.block hy).1
 have:=dkeepOb_ok.lt h hx
 omega
theorem JZ (b:Bool) (hI:KI r s) {S0:Bool→Nat→TSt} {M0:LM} {n0:Int} (hS:S0 b=s.S b) (h:Ag k r ⟨S0,M0,n0⟩ w X) (nw:Int) (hg:goOk s.now nw=true) (SS:Nat→List Int) (hG:∀ i,i<r.p→GoS r.G (s.S b i).now nw (s.S b i).M (SS i)):Calls Tryz.prog 22 #[ptr0 (k.gb b),.int .i64 nw] w fun e w'=>∃ (A:Option Addr) (a:Nat),e=.returned (.tuple #[.slice A (catF (fun i=>Au (s.S b i) (SS i)) r.p).length a,.int .i64 0])∧OwnE w' w.heap.size A a (catF (fun i=>Au (s.S b i) (SS i)) r.p)∧(Ag k r ⟨updB S0 b (fun i=>goTab (r.n b) (s.S b i) nw (SS i)),M0,n0⟩).ToZ w w' X (InB A):=by
 obtain ⟨X1,h1,-,-,h2⟩:=FR b h
 dsimp only at h1 h2
 rw [hS] at h1
 refine (O3 h1 (hI.lk b).ti nw (fun i hi=>by rw [(hI.lk b).now i hi,hI.now b];exact hg) SS (by rw [r.G_b];exact hG) (fun i hi=>by
  have h5:=Pd ((hI.lk b).ti i hi) (hG i hi)
  have h6:=hI.n4 b
  unfold Au at h5
  rw [List.length_map] at h5
  omega)).mono ?_
 rintro e w' ⟨A,a,rfl,hO,hT⟩
 refine ⟨A,a,rfl,hO,h2 _ _ _ (fun y hy hx=>?_) hT⟩
 have:=(hO.block hy).1
 have:=dkeepOb_ok.lt h hx
 omega
theorem L9 (hI:KI r s) (h:Ag k r s w X) (nw:Int) (hg:goOk s.now nw=false):Calls Tryz.prog 22 #[ptr0 (k.gb true),.int .i64 nw] w fun e w'=>e=.returned (.tuple #[.slice none 0 0,.int .i64 15])∧(Ag k r s).To w w' X:=by
 obtain ⟨X1,h1,-,h2⟩:=Dq true h
 refine (Jg h1 (hI.lk true).ti nw (by rw [hI.now true];exact hg)).mono ?_
 rintro e w' ⟨rfl,hT⟩
 have:=h2 _ _ hT
 have e:updB s.S true (s.S true)=s.S:=by
  funext b
  cases b <;> rfl
 rw [e] at this
 exact ⟨rfl,this⟩
set_option maxRecDepth 100000 in
set_option maxHeartbeats 8000000 in
theorem Oh (hI:KI r s) (h:Ag k r s w X) (bk:Int):Calls Tryz.prog 53 #[ptr0 k.g,.int .i64 bk] w fun e w'=>∃ (A:Option Addr) (a:Nat),e=.returned (.slice A (Bi r s bk).length a)∧OwnE w' w.heap.size A a (Bi r s bk)∧(Ag k r (kDrop r s bk)).ToZ w w' X (InB A):=by
 obtain ⟨c0,-,-⟩:=CI h
 have l1:=Dp hI bk true
 have l2:=Dp hI bk false
 have D1:=Lib.hid (Hp true hI (k:=k) (S0:=s.S) (M0:=s.M) (n0:=s.now) rfl h bk)
 have D2:=Lib.hid fun (W:World) (X1:Nat→Prop) (hW:Ag k r ⟨updB s.S true (fun i=>AX (r.n true) bk (s.S true i)),s.M,s.now⟩ W X1)=>Hp false hI (S0:=updB s.S true (fun i=>AX (r.n true) bk (s.S true i))) rfl hW bk
 have C1:=Lib.hid fun (W:World) (X1:Nat→Prop) (hW:Ag k r ⟨updB s.S true (fun i=>AX (r.n true) bk (s.S true i)),s.M,s.now⟩ W X1)=>(CI hW).2.1
 have hST:=Fb (Bi r s bk) hI.ld (fun y=>by rw [H1 hI bk y];omega) hI.cnt
 have hml:=hI.mlen
 have GN:=Lib.hid fun (W:World) (X1:Nat→Prop) (hW:Ag k r ⟨updB (updB s.S true (fun i=>AX (r.n true) bk (s.S true i))) false (fun i=>AX (r.n false) bk (s.S false i)),s.M,s.now⟩ W X1) (A:Option Addr) (d:Nat) (hR:Reads W W.heap.size 14 A (Bi r s bk).length ((Bi r s bk).flatMap Slt.ent)) (hA:∀ ad,A=some ad→¬ X1 ad.block)=>show Calls Tryz.prog 108 #[ptr0 k.g,.slice A (Bi r s bk).length d] W fun e w'=>e=.returned (.tuple #[])∧(Ag k r (kDrop r s bk)).To W w' X1 from by
  have e:kDrop r s bk=⟨updB (updB s.S true (fun i=>AX (r.n true) bk (s.S true i))) false (fun i=>AX (r.n false) bk (s.S false i)),AE s.M (Bi r s bk),s.now⟩:=by
   rw [L6 s.S fun b i=>AX (r.n b) bk (s.S b i)]
   rfl
  rw [e]
  exact FV hW (Bi r s bk) A d hR hA (fun j hj=>by
   obtain ⟨-,a2,a3,a4⟩:=hST j hj
   exact ⟨a2,a3,Nat.le_trans a4 (by omega)⟩) (by unfold Bi;rw [List.length_append];omega)
 unfold Bi at GN ⊢
 obtain ⟨L1,e1⟩:∃ L,CF r s bk true=L:=⟨_,rfl⟩
 obtain ⟨L2,e2⟩:∃ L,CF r s bk false=L:=⟨_,rfl⟩
 rw [e1] at D1 l1
 rw [e2] at D2 l2
 rw [e1,e2] at GN ⊢
 obtain ⟨s3,hs3⟩:∃ x,kDrop r s bk=x:=⟨_,rfl⟩
 rw [hs3] at GN ⊢
 clear e1 e2 h hI hST hs3
 go_enter Tryz.func53,Tryz.ntmps53
 go_upto_region 2 with (go_at_call 25;(with_reducible refine D1.out.mono ?_);rintro e w1 ⟨A1,q1,rfl,hO1,hT1⟩)
 obtain ⟨X3,g1,g2,g3,g4⟩:=hT1
 have hz3:=g2.size
 have D2':=Lib.hid (D2.out _ _ g1)
 have c1:=C1.out _ _ g1
 replace g1:=Lib.hid g1
 replace g2:=Lib.hid g2
 replace g3:=Lib.hid g3
 replace g4:=Lib.hid g4
 clear D1 D2 C1 c0
 go_upto_region 3 with (first
  | (go_at_call 25;(with_reducible refine D2'.out.mono ?_);rintro e w4 ⟨A4,q4,rfl,hO4,hT4⟩;have hO1':=hO1.to hT4.to g4.out;have hz4:w1.heap.size≤w4.heap.size:=(AK hT4.to).size)
  | (at_builtin;(refine Aw rfl (.tmp 12) (.tmp 18) rfl w.heap.size A1 q1 L1 L1.length rfl rfl hO1' A4 q4 L2 L2.length rfl rfl hO4.reads (by omega) (by omega) ?_;intro A5 q5 w5 hO5 hP5)))
 have hT5:=Ob.ToZ.push dkeepOb_ok (Ob.ToZ.of g2.out g3.out g4.out (fun y hy=>(hO1.block hy).2) hT4.to) hP5 (fun y hy=>(hO1.block hy).1)
 obtain ⟨X5,f1,f2,f3,f4⟩:=hT5
 have hGN:=Lib.hid (GN.out _ _ f1 A5 q5 (by have:=hO5.reads;exact this) (fun ad e hx=>f4 _ hx ⟨ad,e,rfl⟩))
 replace f1:=Lib.hid f1
 replace f2:=Lib.hid f2
 replace f3:=Lib.hid f3
 replace f4:=Lib.hid f4
 have hln:(L1 ++ L2).length=L1.length+L2.length:=by rw [List.length_append]
 rw [hln] at hGN
 clear hP5 hT4 hO4 GN D2' g1 g2 g3 g4 c1
 go_wp2_with (go_at_call 108;(with_reducible refine hGN.out.mono ?_);rintro e w6 ⟨rfl,hT6⟩)
 go_ret
 refine ⟨A5,q5,by rw [hln];rfl,hO5.to hT6 f4.out,Ob.ToZ.of f2.out f3.out f4.out (fun y hy=>(hO5.block hy).2) hT6⟩
set_option maxRecDepth 100000 in
theorem MJ (hI:KI r s) (h:Ag k r s w X) (nw:Int) (hg:goOk s.now nw=false):Calls Tryz.prog 51 #[ptr0 k.g,.int .i64 nw] w fun e w'=>e=.returned (.tuple #[.slice none 0 0,.int .i64 15])∧(Ag k r s).To w w' X:=by
 obtain ⟨c0,-,-⟩:=CI h
 have D1:=Lib.hid (L9 hI h nw hg)
 clear h hI hg
 go_enter Tryz.func51,Tryz.ntmps51
 go_wp2_with (go_at_call 22;(with_reducible refine D1.out.mono ?_);rintro e w1 ⟨rfl,hT1⟩)
 go_ret2
 exact ⟨rfl,hT1⟩
set_option maxRecDepth 100000 in
set_option maxHeartbeats 8000000 in
theorem RP (hI:KI r s) (h:Ag k r s w X) (nw:Int) (hg:goOk s.now nw=true) (SS:Bool→Nat→List Int) (hS:KGoS r s nw SS):Calls Tryz.prog 51 #[ptr0 k.g,.int .i64 nw] w fun e w'=>∃ (A:Option Addr) (a:Nat),e=.returned (.tuple #[.slice A (kGoL r s SS).length a,.int .i64 0])∧OwnE w' w.heap.size A a (kGoL r s SS)∧(Ag k r (kGo r s nw SS)).ToZ w w' X (InB A):=by
 obtain ⟨c0,-,-⟩:=CI h
 have l1:=Gw hI (b:=true) (hS true)
 have l2:=Gw hI (b:=false) (hS false)
 have D1:=Lib.hid (JZ true hI (k:=k) (S0:=s.S) (M0:=s.M) (n0:=goN s.now nw) rfl (by
  have e:Ag k r ⟨s.S,s.M,goN s.now nw⟩=Ag k r s:=rfl
  rw [e]
  exact h) nw hg (SS true) (hS true))
 have D2:=Lib.hid fun (W:World) (X1:Nat→Prop) (hW:Ag k r ⟨updB s.S true (fun i=>goTab (r.n true) (s.S true i) nw (SS true i)),s.M,goN s.now nw⟩ W X1)=>JZ false hI (S0:=updB s.S true (fun i=>goTab (r.n true) (s.S true i) nw (SS true i))) rfl hW nw hg (SS false) (hS false)
 have C1:=Lib.hid fun (W:World) (X1:Nat→Prop) (hW:Ag k r ⟨updB s.S true (fun i=>goTab (r.n true) (s.S true i) nw (SS true i)),s.M,goN s.now nw⟩ W X1)=>(CI hW).2.1
 have hml:=hI.mlen
 obtain ⟨ST1,ST2⟩:=QC (L1:=kGoB r s SS true) (L2:=kGoB r s SS false) hI.ld (fun y=>by rw [KW hI hS y];unfold kGoL;omega) hI.cnt hml
 have e:kGo r s nw SS=⟨updB (updB s.S true (fun i=>goTab (r.n true) (s.S true i) nw (SS true i))) false (fun i=>goTab (r.n false) (s.S false i) nw (SS false i)),AE (AE s.M (kGoB r s SS true)) (kGoB r s SS false),goN s.now nw⟩:=by
  rw [L6 s.S fun b i=>goTab (r.n b) (s.S b i) nw (SS b i),← Fl]
  rfl
 rw [e]
 have l1':(kGoB r s SS true).length≤65536:=l1
 have l2':(kGoB r s SS false).length≤65536:=l2
 have G1:=Lib.hid fun (W:World) (X1:Nat→Prop) (hW:Ag k r ⟨updB (updB s.S true (fun i=>goTab (r.n true) (s.S true i) nw (SS true i))) false (fun i=>goTab (r.n false) (s.S false i) nw (SS false i)),s.M,goN s.now nw⟩ W X1) (A:Option Addr) (d:Nat) hR hA=>FV hW (kGoB r s SS true) A d hR hA ST1 (by omega)
 have G2:=Lib.hid fun (W:World) (X1:Nat→Prop) (hW:Ag k r ⟨updB (updB s.S true (fun i=>goTab (r.n true) (s.S true i) nw (SS true i))) false (fun i=>goTab (r.n false) (s.S false i) nw (SS false i)),AE s.M (kGoB r s SS true),goN s.now nw⟩ W X1) (A:Option Addr) (d:Nat) hR hA=>FV hW (kGoB r s SS false) A d hR hA ST2 (by omega)
 unfold kGoL
 have z1:catF (fun i=>Au (s.S true i) (SS true i)) r.p=kGoB r s SS true:=rfl
 have z2:catF (fun i=>Au (s.S false i) (SS false i)) r.p=kGoB r s SS false:=rfl
 rw [z1] at D1
 rw [z2] at D2
 obtain ⟨L1,e1⟩:∃ L,kGoB r s SS true=L:=⟨_,rfl⟩
 obtain ⟨L2,e2⟩:∃ L,kGoB r s SS false=L:=⟨_,rfl⟩
 rw [e1] at D1 l1' G1 G2
 rw [e2] at D2 l2' G2
 rw [e1,e2]
 clear e1 e2 h hI hS ST1 ST2 e z1 z2 l1 l2 hg
 go_enter Tryz.func51,Tryz.ntmps51
 go_upto_region 4 with (go_at_call 22;(with_reducible refine D1.out.mono ?_);rintro e w1 ⟨A1,q1,rfl,hO1,hT1⟩)
 obtain ⟨X3,g1,g2,g3,g4⟩:=hT1
 have hz3:=g2.size
 have D2':=Lib.hid (D2.out _ _ g1)
 have c1:=C1.out _ _ g1
 replace g1:=Lib.hid g1
 replace g2:=Lib.hid g2
 replace g3:=Lib.hid g3
 replace g4:=Lib.hid g4
 clear D1 D2 C1 c0
 go_upto_region 7 with (go_at_call 22;(with_reducible refine D2'.out.mono ?_);rintro e w4 ⟨A4,q4,rfl,hO4,hT4⟩)
 have hO1':=hO1.to hT4.to g4.out
 have hz4:w1.heap.size≤w4.heap.size:=(AK hT4.to).size
 have hA1lt:=fun y (hy:InB A1 y)=>(hO1.block hy).2
 have hA1ge:=fun y (hy:InB A1 y)=>(hO1.block hy).1
 have hA4lt:=fun y (hy:InB A4 y)=>(hO4.block hy).2
 obtain ⟨X4,m1,m2,m3,m4⟩:=hT4
 have f1:∀ y,X4 y→¬ InB A1 y:=fun y hy e=>by
  rcases m3 y hy with h | h
  · exact g4.out y h e
  ·
   have:=hA1lt y e
   omega
 have f2:Chg X w w4:=g2.out.trans m2 fun y hy hx=>by
  rcases g3.out y hx with h | h
  · exact h
  · omega
 have f3:∀ y,X4 y→X y∨w.heap.size≤y:=fun y hy=>by
  rcases m3 y hy with h | h
  · exact g3.out y h
  · exact .inr (by omega)
 have hG1:=Lib.hid (G1.out _ _ m1 A1 q1 (by have:=hO1'.reads;exact this) (fun ad e hx=>f1 _ hx ⟨ad,e,rfl⟩))
 replace f1:=Lib.hid f1
 replace f2:=Lib.hid f2
 replace f3:=Lib.hid f3
 replace m4:=Lib.hid m4
 clear G1 m1 m2 m3 g1 g2 g3 g4 D2' c1
 go_upto_region 8 with (go_at_call 108;(with_reducible refine hG1.out.mono ?_);rintro e w5 ⟨rfl,hT5⟩)
 have hO1a:=hO1'.to hT5 f1.out
 have hO4a:=hO4.to hT5 m4.out
 have hz5:w4.heap.size≤w5.heap.size:=(AK hT5).size
 obtain ⟨X5,m1,m2,m3⟩:=hT5
 have h1:∀ y,X5 y→¬ InB A1 y:=fun y hy e=>by
  rcases m3 y hy with h | h
  · exact f1.out y h e
  ·
   have:=hA1lt y e
   omega
 have h4:∀ y,X5 y→¬ InB A4 y:=fun y hy e=>by
  rcases m3 y hy with h | h
  · exact m4.out y h e
  ·
   have:=hA4lt y e
   omega
 have h2:Chg X w w5:=f2.out.trans m2 fun y hy hx=>by
  rcases f3.out y hx with h | h
  · exact h
  · omega
 have h3:∀ y,X5 y→X y∨w.heap.size≤y:=fun y hy=>by
  rcases m3 y hy with h | h
  · exact f3.out y h
  · exact .inr (by omega)
 have hG2:=Lib.hid (G2.out _ _ m1 A4 q4 (by have:=hO4a.reads;exact this) (fun ad e hx=>h4 _ hx ⟨ad,e,rfl⟩))
 replace h1:=Lib.hid h1
 replace h2:=Lib.hid h2
 replace h3:=Lib.hid h3
 replace h4:=Lib.hid h4
 clear G2 m1 m2 m3 f1 f2 f3 m4 hG1 hO1 hO1'
 go_upto_region 9 with (go_at_call 108;(with_reducible refine hG2.out.mono ?_);rintro e w6 ⟨rfl,hT6⟩)
 have hO1b:=hO1a.to hT6 h1.out
 have hO4b:=hO4a.to hT6 h4.out
 have hz6:w5.heap.size≤w6.heap.size:=(AK hT6).size
 have hT7:=Lib.hid (Ob.ToZ.of (Z:=InB A1) h2.out h3.out h1.out (fun y hy=>by have:=hA1lt y hy;omega) hT6)
 clear hT6 hG2 h1 h2 h3 h4 hO1a hO4a hO4
 go_wp2_with (at_builtin;(refine Aw rfl (.tmp 39) (.tmp 40) rfl w.heap.size A1 q1 L1 L1.length rfl rfl hO1b A4 q4 L2 L2.length rfl rfl hO4b.reads (by omega) (by omega) ?_;intro A9 q9 w9 hO9 hP9))
 go_ret2
 refine ⟨A9,q9,by rw [List.length_append];rfl,hO9,Ob.ToZ.push dkeepOb_ok hT7.out hP9 hA1ge⟩
end
section
variable {w w':World} {X F:Nat→Prop} {k:DKPtr} {r:KRule} {s:KSt}
set_option maxRecDepth 100000 in
set_option maxHeartbeats 8000000 in
theorem Oi (hI:KI r s) (h:Ag k r s w X):Calls Tryz.prog 55 #[ptr0 k.g] w fun e w'=>∃ (A:Option Addr) (a:Nat),e=.returned (.slice A (r.live s).length a)∧OwnE w' w.heap.size A a (r.live s)∧Below w.heap.size w w':=by
 obtain ⟨c0,c1,hgX⟩:=CI h
 have hg:=dkeepOb_ok.lt h hgX
 have l1:=hI.lenB true
 have l2:=hI.lenB false
 have LV:=Lib.hid fun b (W:World) (hb:Below w.heap.size w W)=>MI b (dkeepOb_ok.call h hb)
 have LV1:=Lib.hid (LV.out true)
 have LV2:=Lib.hid (LV.out false)
 unfold KRule.live
 obtain ⟨L1,e1⟩:∃ L,r.liveB s true=L:=⟨_,rfl⟩
 obtain ⟨L2,e2⟩:∃ L,r.liveB s false=L:=⟨_,rfl⟩
 rw [e1] at LV1 l1 ⊢
 rw [e2] at LV2 l2 ⊢
 clear LV e1 e2 h hI hgX
 have hd:Below w.heap.size w w.drew:=(Below.refl _ _).drew
 have hzd:w.drew.heap.size=w.heap.size:=rfl
 have hS:w.drew.cell? ⟨k.g,0,none⟩=some (ptr0 (k.gb true))∧w.drew.cell? ⟨k.g,1,none⟩=some (ptr0 (k.gb false)):=⟨c0,c1⟩
 clear c0 c1
 have hln:(L1 ++ L2).length=L1.length+L2.length:=by rw [List.length_append]
 have one1:∀ x:Slt,∀ u ∈ x.ent,u.oneCell'=true:=Gu
 go_enter Tryz.func55,Tryz.ntmps55
 go_upto_region 1 with fail
 refine wp_region_held_drew (S:=fun W=>W.cell? ⟨k.g,0,none⟩=some (ptr0 (k.gb true))∧W.cell? ⟨k.g,1,none⟩=some (ptr0 (k.gb false))) (by kernel_rfl) hS (fun hHeld=>?_)
 generalize w.drew=wd at *
 replace hzd:=Lib.hid hzd
 refine tq 0 ?_;try go_frame
 refine tq 1 ?_;try go_frame
 refine tq 2 ?_;try go_frame
 refine tq 3 ?_;try go_frame
 refine tq 5 ?_;try go_frame
 refine tq 6 ?_;try go_frame
 refine tq 7 ?_;try go_frame
 refine tq 8 ?_;try go_frame
 refine oneH 4 fun K hK=>?_
 go_simp
 (go_at_call 26;(with_reducible refine (LV1.out _ hd).mono ?_))
 rintro e w1 ⟨A1,q1,rfl,O1,hb1⟩
 refine hK.out _ _ ⟨(hb1.cell (A0 hHeld.1)).trans hHeld.1,(hb1.cell (A0 hHeld.2)).trans hHeld.2⟩ (fun hHeld=>?_)
 clear hK K
 try go_frame
 refine oneH 9 fun K hK=>?_
 go_simp
 (go_at_call 26;(with_reducible refine (LV2.out _ (A8 hb1 hd)).mono ?_))
 rintro e w2 ⟨A2,q2,rfl,O2,hb2⟩
 refine hK.out _ _ ⟨(hb2.cell (A0 hHeld.1)).trans hHeld.1,(hb2.cell (A0 hHeld.2)).trans hHeld.2⟩ (fun hHeld=>?_)
 clear hK K
 try go_frame
 have OA1:=O1
 refine oneH 10 fun K hK=>?_
 have z1:=hb1.size
 have z2:=hb2.size
 refine Bs (cells:=Slt.ent) one1 rfl (.tmp 7) (.tmp 12) rfl w.heap.size A1 q1 L1 L1.length rfl rfl ((O1.call hb2).low (by have h9:=hzd.out;omega)) A2 q2 L2 L2.length rfl rfl O2.reads (by omega) (by have h9:=hzd.out;omega) ?_
 intro A9 q9 w9 hO9 hP9
 have hA:=fun y (hy:InB A1 y)=>(OA1.block hy).1
 have hAg:=fun y (hy:InB A1 y)=>show y≠k.g from by have:=hA y hy;have h9:=hzd.out;omega
 refine hK.out _ _ ⟨(Af hP9.chg (A0 hHeld.1) (fun e=>hAg _ e rfl)).trans hHeld.1,(Af hP9.chg (A0 hHeld.2) (fun e=>hAg _ e rfl)).trans hHeld.2⟩ (fun hHeld=>?_)
 clear hK K
 try go_frame
 refine tq 11 ?_;try go_frame
 refine wpAnyH_done (by kernel_rfl) ?_ _
 go_wp2_with fail
 go_ret
 exact ⟨A9,q9,by rw [hln];rfl,hO9,hP9.below (A8 hb2 (A8 hb1 hd)) (by have h9:=hzd.out;omega) (fun y hy=>by have:=hA y hy;have h9:=hzd.out;omega)⟩
end
theorem RQ (r:KRule) (hr:AF r.r1=true) (w:World):Calls Tryz.prog 12 #[.agg r.l1.toArray] w fun e w'=>∃ g X,e=.returned (ptr0 g)∧BU g r.r1 r.p (r.n true) (fun _=>sT0 (r.n true)) w' X∧Below w.heap.size w w'∧∀ y,X y→w.heap.size≤y:=Hj r.r1 hr w
theorem RS (r:KRule) (hr:AF r.r2=true) (w:World):Calls Tryz.prog 12 #[.agg r.l2.toArray] w fun e w'=>∃ g X,e=.returned (ptr0 g)∧BU g r.r2 r.p (r.n false) (fun _=>sT0 (r.n false)) w' X∧Below w.heap.size w w'∧∀ y,X y→w.heap.size≤y:=Hj r.r2 hr w
theorem Oj {r:KRule} {w:World} {g g1 g2:Nat} {X1 X2:Nat→Prop} (hB:Blk w g 89 #[ptr0 g1,ptr0 g2,.slice none 0 0,.slice none 0 0]) (h1:BU g1 r.r1 r.p (r.n true) (fun _=>sT0 (r.n true)) w X1) (h2:BU g2 r.r2 r.p (r.n false) (fun _=>sT0 (r.n false)) w X2)
  (b1:∀ y,X1 y→y<g) (b2:∀ y,X2 y→y<g) (hd:∀ y,X1 y→¬ X2 y):Ag ⟨g,fun b=>match b with | true=>g1 | false=>g2⟩ r (kNew r) w (fun y=>y=g∨X1 y∨X2 y) :=
 ⟨fun y=>y=g,fun y=>X1 y∨X2 y,⟨0,none,0,none,0,hB,⟨OwnA.nil _ _,OwnA.nil _ _,fun b hb=>by obtain ⟨a,ha,_⟩:=hb;cases ha⟩,(fun hb=>by obtain ⟨a,ha,_⟩:=hb;cases ha),(fun hb=>by obtain ⟨a,ha,_⟩:=hb;cases ha),fun y=>⟨fun e=>.inl e,fun e=>by
  rcases e with e | ⟨a,e,-⟩ | ⟨a,e,-⟩
  · exact e
  · cases e
  · cases e⟩⟩,⟨X1,X2,h1,h2,hd,fun _=>Iff.rfl⟩,fun y e h=>by
  rcases h with h | h
  ·
   have:=b1 y h
   omega
  ·
   have:=b2 y h
   omega,fun _=>Iff.rfl⟩
set_option maxRecDepth 100000 in
theorem La (r:KRule) (hr:Bg r=false) (w:World):Calls Tryz.prog 39 #[r.val] w fun e w'=>e=.returned (.pointer none)∧Below w.heap.size w w':=by
 have RT:=Lib.hid fun W=>CW r W
 rw [hr] at RT
 have B1:=Blk.new w 70 r.cells.toArray
 have hb0:Below w.heap.size w (w.alloc (.cells r.cells.toArray 70)):=Aa (Below.refl _ _) _
 go_enter Tryz.func39,Tryz.ntmps39
 go_upto_region 1 with fail
 change Code.wp _ _ _ _ (w.alloc (.cells r.cells.toArray 70))
 generalize w.alloc (.cells r.cells.toArray 70)=w1 at *
 obtain ⟨rk,hrk⟩:∃ r,w.heap.size=r:=⟨_,rfl⟩
 rw [hrk] at B1 hb0
 try rw [hrk]
 go_wp2_with (first
  | (with_reducible refine Ai rfl 70 (.tmp 1) rfl rk 0 rfl B1 r.cells rfl _ Tryz.underlying70 rfl (by kernel_rfl) ?_)
  | (go_at_call 34;(with_reducible refine (RT.out _).mono ?_);rintro e w2 ⟨rfl,hb2⟩))
 go_ret
 exact ⟨rfl,by rw [hrk];exact Ah hb2 hb0 (by have:=B1.lt;omega)⟩
set_option maxRecDepth 100000 in
set_option maxHeartbeats 8000000 in
theorem QD (r:KRule) (hr:Bg r=true) (w:World):Calls Tryz.prog 39 #[r.val] w fun e w'=>∃ k X,e=.returned (ptr0 k.g)∧Ag k r (kNew r) w' X∧Below w.heap.size w w'∧∀ y,X y→w.heap.size≤y:=by
 have RT:=Lib.hid fun W=>CW r W
 rw [hr] at RT
 have N1:=Lib.hid fun W=>RQ r (Bf hr true) W
 have N2:=Lib.hid fun W=>RS r (Bf hr false) W
 have T1:=Lib.hid fun W=>Dj r r.nw r.ns r.ng W
 have T2:=Lib.hid fun W=>Dj r r.ww r.ws r.wg W
 have B1:=Blk.new w 70 r.cells.toArray
 have hb0:Below w.heap.size w (w.alloc (.cells r.cells.toArray 70)):=Aa (Below.refl _ _) _
 clear hr
 go_enter Tryz.func39,Tryz.ntmps39
 go_upto_region 1 with fail
 change Code.wp _ _ _ _ (w.alloc (.cells r.cells.toArray 70))
 generalize w.alloc (.cells r.cells.toArray 70)=w1 at *
 obtain ⟨rk,hrk⟩:∃ r,w.heap.size=r:=⟨_,rfl⟩
 rw [hrk] at B1 hb0
 try rw [hrk]
 go_upto_region 3 with (first
  | (with_reducible refine Ai rfl 70 (.tmp 1) rfl rk 0 rfl B1 r.cells rfl _ Tryz.underlying70 rfl (by kernel_rfl) ?_)
  | (go_at_call 34;(with_reducible refine (RT.out _).mono ?_);rintro e w2 ⟨rfl,hb2⟩))
 have hl:=B1.lt
 have hb2':=Ah hb2 hb0 (by omega)
 have hS:KrAt rk r w2.drew:=KrAt.of (B1.call hb2.drew)
 have hz2:rk≤w2.heap.size:=by have:=hb2.size;omega
 have hd:Below w2.heap.size w2 w2.drew:=(Below.refl _ _).drew
 have hzd:w2.drew.heap.size=w2.heap.size:=rfl
 clear B1 hb2 hb0 RT
 refine wp_region_held_drew (S:=KrAt rk r) (by kernel_rfl) hS (fun hHeld=>?_)
 generalize w2.drew=wd at *
 replace hzd:=Lib.hid hzd
 refine tq 0 ?_;try go_frame
 refine tq 1 ?_;try go_frame
 refine tq 2 ?_;try go_frame
 refine tq 5 ?_;try go_frame
 refine tq 6 ?_;try go_frame
 refine tq 7 ?_;try go_frame
 have cwd:Below wd.heap.size wd wd:=Below.refl _ _
 refine oneH 3 fun K hK=>?_
 go_simp
 (go_at_call 100;(with_reducible refine (T1.out _).mono ?_))
 rintro e v1 ⟨rfl,hv1⟩
 refine hK.out _ _ (hHeld.call hv1) (fun hHeld=>?_)
 clear hK K
 try go_frame
 have zv1:=hv1.size
 have cv1:=A8 hv1 cwd
 refine oneH 4 fun K hK=>?_
 go_simp
 (go_at_call 12;(with_reducible refine (N1.out _).mono ?_))
 rintro e v2 ⟨g1,X1,rfl,hT1,hv2,hX1⟩
 refine hK.out _ _ (hHeld.call hv2) (fun hHeld=>?_)
 clear hK K
 try go_frame
 have zv2:=hv2.size
 have cv2:=A8 hv2 cv1
 have ltA:=fun y (hy:X1 y)=>dtabsOb_ok.lt hT1 hy
 refine oneH 8 fun K hK=>?_
 go_simp
 (go_at_call 100;(with_reducible refine (T2.out _).mono ?_))
 rintro e v3 ⟨rfl,hv3⟩
 refine hK.out _ _ (hHeld.call hv3) (fun hHeld=>?_)
 clear hK K
 try go_frame
 have zv3:=hv3.size
 have cv3:=A8 hv3 cv2
 have lt1v3:=fun y (hy:X1 y)=>dtabsOb_ok.lt hT1 hy
 replace hT1:=dtabsOb_ok.call hT1 hv3
 refine oneH 9 fun K hK=>?_
 go_simp
 (go_at_call 12;(with_reducible refine (N2.out _).mono ?_))
 rintro e v4 ⟨g2,X2,rfl,hT2,hv4,hX2⟩
 refine hK.out _ _ (hHeld.call hv4) (fun hHeld=>?_)
 clear hK K
 try go_frame
 have zv4:=hv4.size
 have cv4:=A8 hv4 cv3
 have lt1v4:=fun y (hy:X1 y)=>dtabsOb_ok.lt hT1 hy
 replace hT1:=dtabsOb_ok.call hT1 hv4
 refine tq 10 ?_;try go_frame
 refine oneH 11 fun K hK=>?_
 go_simp
 have hbk:Below v4.heap.size v4 (v4.alloc (.cells #[ptr0 g1,ptr0 g2,.slice none 0 0,.slice none 0 0] 89)):=Aa (Below.refl _ _) _
 have BK:=Blk.new v4 89 #[ptr0 g1,ptr0 g2,.slice none 0 0,.slice none 0 0]
 have q1:=fun y (hy:X1 y)=>dtabsOb_ok.lt hT1 hy
 have q2:=fun y (hy:X2 y)=>dtabsOb_ok.lt hT2 hy
 have HM:=Oj BK (dtabsOb_ok.call hT1 hbk) (dtabsOb_ok.call hT2 hbk) q1 q2 (fun y hy hx=>by have:=hX2 y hx;have:=ltA y hy;omega)
 refine hK.out _ _ (hHeld.call hbk) (fun hHeld=>?_)
 clear hK K
 try go_frame
 refine tq 12 ?_;try go_frame
 refine wpAnyH_done (by kernel_rfl) ?_ _
 replace HM:=Lib.hid HM
 have hend:=Ah hbk (Ah cv4 (Ah hd hb2' (by omega)) (by have h9:=hzd.out;omega)) (by have:=cv4.size;have h9:=hzd.out;omega)
 clear hHeld BK hbk
 go_wp2_with fail
 go_ret
 refine ⟨⟨v4.heap.size,fun b=>match b with | true=>g1 | false=>g2⟩,_,rfl,HM.out,by rw [hrk];exact hend,fun y hy=>?_⟩
 rw [hrk]
 have h9:=hzd.out
 have h8:=cv4.size
 rcases hy with hy | hy | hy
 · omega
 ·
  have:=hX1 y hy
  omega
 ·
  have:=hX2 y hy
  omega
end Go.Proofs.YteklkljndchjiaaGreat
