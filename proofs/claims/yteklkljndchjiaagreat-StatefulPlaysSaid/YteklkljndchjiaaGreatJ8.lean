/- slices.Clone and slices.Reverse at []int. stack: what a stack is in memory; contracts of Free, Has, Pop, Push. stack.New; the reference's stack. stack: Push, whatever is pushed. -/
import Derived.Test.YteklkljndchjiaaGreatJ5
import Derived.Test.YteklkljndchjiaaGreatJ7
import Derived.WalkSpells
namespace Go.Proofs.YteklkljndchjiaaGreat
open Go Go.RowKit Go.Deep
theorem QK (xs:List Int):∀ u ∈ xs.map (Value.int .i64),u.oneCell'=true:=by
 intro u hu
 obtain ⟨x,_,rfl⟩:=List.mem_map.1 hu
 rfl
theorem MO {w:World} {base n:Nat} {e:TypeId} {v:Value} {xs:List Value} (h:w.ownsRow base e 1 v n xs) (hn:0<n) :
  ∃ g cap f,v=.slice (some ⟨g,0,none⟩) n cap∧base≤g∧n≤cap∧cap≤maxLen∧w.rowIs g e cap f∧∀ i u,xs[i]?=some u→f i=u:=by
 rcases h.2 with ⟨_,h0⟩ | ⟨g,cap,cur,rfl,hb,hh,hnc,hcap,hsz,htake⟩
 · omega
 ·
  refine ⟨g,cap,fun i=>cur.getD i undef,rfl,hb,hnc,hcap,?_,?_⟩
  · exact ⟨cur,hh,by omega,fun i hi=>by simp [Array.getD_eq_getD_getElem?,Array.getElem?_eq_getElem (show i<cur.size by omega)]⟩
  ·
   intro i u hu
   rw [← htake,List.getElem?_take] at hu
   split at hu
   ·
    simp only [Array.getElem?_toList] at hu
    simp [Array.getD_eq_getD_getElem?,hu]
   · cases hu
theorem S9 (w:World) (base:Nat) (e:TypeId) (xs:List Value) (hb:base≤w.heap.size) (hm:xs.length≤maxLen) :
  (w.alloc (.cells xs.toArray e)).ownsRow base e 1 (.slice (some ⟨w.heap.size,0,none⟩) xs.length xs.length) xs.length xs:=by
 refine ⟨by simp,.inr ⟨w.heap.size,xs.length,xs.toArray,rfl,hb,Blk.new w e _,Nat.le_refl _,hm,by simp,by simp⟩⟩
def inB (l:List Int) (i:Int):Bool:=decide (i ∈ l)
theorem K7 {l:List Int} {i:Int} (h:i ∉ l):inB l i=false:=by simp [inB,h]
theorem Hu {l:List Int} {i:Int} (h:i ∈ l):inB l i=true:=by simp [inB,h]
def StackP (w:World) (g N:Nat) (l:List Int) (F:Nat→Prop):Prop :=
 ∃ vf gi,Blk w g 265 #[.bool true,vf,.slice (some ⟨gi,0,none⟩) N N]∧w.ownsRow 0 3 1 vf l.length (l.reverse.map (.int .i64)) ∧
  w.rowIs gi 4 N (fun i=>.bool (inB l i))∧(∀ b,F b ↔ b=g∨b=gi∨vf.ownBlock=some b)∧l.Nodup∧(∀ x ∈ l,0≤x∧x<N)∧N≤4096
theorem StackP.chg {w w':World} {g N:Nat} {l:List Int} {F G:Nat→Prop} (h:StackP w g N l F) (k:Chg G w w') (hd:∀ b,F b→¬ G b):StackP w' g N l F:=by
 obtain ⟨vf,gi,h1,h2,h3,h4,h5⟩:=h
 exact ⟨vf,gi,h1.chg k (hd _ ((h4 _).2 (.inl rfl))),Lc h2 k (fun b hb=>hd _ ((h4 _).2 (.inr (.inr hb)))),C6 h3 k (hd _ ((h4 _).2 (.inr (.inl rfl)))),h4,h5⟩
theorem StackP.lt {w:World} {g N:Nat} {l:List Int} {F:Nat→Prop} (h:StackP w g N l F) {b:Nat} (hb:F b):b<w.heap.size:=by
 obtain ⟨vf,gi,h1,h2,h3,h4,_⟩:=h
 rcases (h4 b).1 hb with rfl | rfl | hb
 · exact h1.lt
 · exact h3.lt
 · exact (h2.lt b hb).2
theorem Le (g N:Nat) (l:List Int) (F:Nat→Prop) (w:World) (h:StackP w g N l F) :
  Calls Tryz.prog 176 #[.pointer (some ⟨g,0,none⟩)] w fun e w'=>e=.returned (.int .i64 l.length)∧w=w':=by
 obtain ⟨vf,gi,h1,h2,h3,h4,h5,h6,h7⟩:=h
 have c1:=h1.cell 1
 simp at c1
 have hv:∃ A c,vf=.slice A l.length c:=by
  rcases h2.2 with ⟨rfl,h0⟩ | ⟨g',cap,cur,rfl,_⟩
  · exact ⟨none,0,by rw [h0]⟩
  · exact ⟨_,_,rfl⟩
 obtain ⟨A,c,rfl⟩:=hv
 go_enter Tryz.func176,Tryz.ntmps176
 go_wp2_with fail
 go_ret
 exact ⟨rfl,rfl⟩
theorem Sa (g N:Nat) (l:List Int) (F:Nat→Prop) (w:World) (h:StackP w g N l F) :
  Calls Tryz.prog 146 #[.pointer (some ⟨g,0,none⟩)] w fun e w'=>e=.returned (.tuple #[.int .i64 (l.headD 0),.bool (!l.isEmpty)])∧StackP w' g N l.tail F∧Chg F w w':=by
 have H:=h
 obtain ⟨vf,gi,h1,h2,h3,h4,h5,h6,h7⟩:=h
 cases l with
 | nil =>
  go_enter Tryz.func146,Tryz.ntmps146
  go_wp2_with (go_at_call 176;refine (Le g N [] F _ H).mono ?_;rintro e w1 ⟨rfl,rfl⟩)
  go_ret2
  exact ⟨rfl,H,Chg.refl _ _⟩
 | cons x l =>
  obtain ⟨gf,cap,f,rfl,hb,hnc,hcap,hrow,hf⟩:=MO h2 (by simp)
  have c1:=h1.cell 1
  have c2:=h1.cell 2
  simp at c1 c2
  have hx:=h6 x (by simp)
  obtain ⟨k,hk⟩:∃ k:Nat,x=k:=⟨x.toNat,by omega⟩
  have hkN:k<N:=by omega
  have cx:w.cell? ⟨gf,l.length,none⟩=some (.int .i64 k):=by
   rw [hrow.cell (by simp at hnc;omega),hf l.length (.int .i64 k) (by simp [hk])]
  have cb:=h3.cell hkN
  have fb:=h3.frozen k
  have f1:=h1.frozen 1
  have ne1:g≠gi:=by
   obtain ⟨c,hc,_⟩:=h3
   exact Blk.ne_ (t':=4) h1 hc (by decide)
  replace hk:=Lib.hid hk
  unfold maxLen at hcap
  simp only [List.length_cons] at hnc
  have hl:l.length+1≤9223372036854775807:=by omega
  go_enter Tryz.func146,Tryz.ntmps146
  go_wp2_with (go_at_call 176;refine (Le g N (x :: l) F _ H).mono ?_;rintro e w1 ⟨rfl,rfl⟩)
  go_ret2
  have ngf:gf≠g:=fun e=>El h2 h1 (by decide) (by rw [e];rfl)
  have ngi:gf≠gi:=by
   obtain ⟨c,hc,_⟩:=h3
   exact fun e=>El h2 hc (by decide) (by rw [e];rfl)
  have hx0:=hk.out
  have hown:w.ownsRow 0 3 1 (.slice (some ⟨gf,0,none⟩) l.length cap) l.length (l.reverse.map (.int .i64)):=by
   refine ownsRow_pop (last:=[.int .i64 x]) (by simp) ?_
   simpa using h2
  refine ⟨by simp [hx0],⟨.slice (some ⟨gf,0,none⟩) l.length cap,gi,?_,?_,?_,?_,(List.nodup_cons.1 h5).2,fun y hy=>h6 y (by simp only [List.tail_cons] at hy;simp [hy]),h7⟩,?_⟩
  · exact (h1.set_ 1 _).far ne1 _
  · exact ownsRow_setCell_other (ownsRow_setCell_other hown (by simpa [Value.ownBlock] using ngf) _) (by simpa [Value.ownBlock] using ngi) _
  ·
   refine ((h3.setOther (Ne.symm ne1) _).set k _).congr (fun i hi=>?_)
   have hn:=(List.nodup_cons.1 h5).1
   rw [hx0] at hn
   by_cases e:i=k
   ·
    subst e
    rw [if_pos rfl,List.tail_cons,K7 hn]
   ·
    rw [if_neg e,List.tail_cons,hx0]
    have:(i:Int)≠(k:Int):=by omega
    simp [inB,this]
  · exact h4
  ·
   have hFg:F g:=(h4 g).2 (.inl rfl)
   have hFi:F gi:=(h4 gi).2 (.inr (.inl rfl))
   exact ((Chg.refl _ _).setCell (fun _=>hFg) _).setCell (fun _=>hFi) _
theorem MR (l:List Int) (N:Nat) (h:l.Nodup) (h6:∀ x ∈ l,0≤x∧x<N):l.length≤N:=by
 have h3:l ⊆ (List.range N).map (fun n:Nat=>(n:Int)):=by
  intro x hx
  have:=h6 x hx
  exact List.mem_map.2 ⟨x.toNat,by simp;omega,by omega⟩
 have:=List.Nodup.length_le_of_subset h h3
 simpa using this
theorem Sc (g N:Nat) (l:List Int) (F:Nat→Prop) (i:Int) (w:World) (h:StackP w g N l F) (hi:i<0∨N≤i∨i ∈ l) :
  Calls Tryz.prog 207 #[.pointer (some ⟨g,0,none⟩),.int .i64 i] w fun e w'=>e=.returned (.bool false)∧w=w':=by
 obtain ⟨vf,gi,h1,h2,h3,h4,h5,h6,h7⟩:=h
 have c0:=h1.cell 0
 have c2:=h1.cell 2
 simp at c0 c2
 by_cases h0:0≤i
 ·
  by_cases hN:i<N
  ·
   have hm:i ∈ l:=by
    rcases hi with h | h | h
    · omega
    · omega
    · exact h
   obtain ⟨k,rfl⟩:∃ k:Nat,i=k:=⟨i.toNat,by omega⟩
   have hk:k<N:=by omega
   have cb:=h3.cell hk
   rw [Hu hm] at cb
   clear h1 h2 h3 h5 h6 hi hm
   go_enter Tryz.func207,Tryz.ntmps207
   go_wp2
   go_ret
   exact ⟨rfl,rfl⟩
  ·
   clear h1 h2 h3 h5 h6 hi
   go_enter Tryz.func207,Tryz.ntmps207
   go_wp2
   go_ret
   exact ⟨rfl,rfl⟩
 ·
  clear h1 h2 h3 h5 h6 hi
  go_enter Tryz.func207,Tryz.ntmps207
  go_wp2
  go_ret
  exact ⟨rfl,rfl⟩
set_option maxRecDepth 100000 in
theorem Lf (g N:Nat) (l:List Int) (F:Nat→Prop) (i:Int) (w:World) (h:StackP w g N l F) (h0:0≤i) (hN:i<N) (hi:i ∉ l) :
  Calls Tryz.prog 207 #[.pointer (some ⟨g,0,none⟩),.int .i64 i] w fun e w'=>e=.returned (.bool true)∧∃ F',StackP w' g N (i :: l) F'∧Chg F w w'∧∀ b,F' b→F b∨w.heap.size≤b:=by
 obtain ⟨i0,hi0,hz0,hz1,hz2⟩:=info_parts E3
 obtain ⟨vf,gi,h1,h2,h3,h4,h5,h6,h7⟩:=h
 have c0:=h1.cell 0
 have c1:=h1.cell 1
 have c2:=h1.cell 2
 simp at c0 c1 c2
 obtain ⟨k,rfl⟩:∃ k:Nat,i=k:=⟨i.toNat,by omega⟩
 have hk:k<N:=by omega
 have cb:=h3.cell hk
 rw [K7 hi] at cb
 have fb:=h3.frozen k
 have f1:=h1.frozen 1
 have ne1:g≠gi:=by
  obtain ⟨c,hc,_⟩:=h3
  exact Blk.ne_ (t':=4) h1 hc (by decide)
 have ngf:vf.ownBlock≠some g:=El h2 h1 (by decide)
 have ngi:vf.ownBlock≠some gi:=by
  obtain ⟨c,hc,_⟩:=h3
  exact El h2 hc (by decide)
 have hlen:l.length≤N:=MR l N h5 h6
 have hown1:=(ownsRow_setCell_other (a:=⟨gi,k,none⟩) h2 ngi (.bool true)).alloc (.cells #[.int .i64 k] 3)
 have hB1:Blk ((w.setCell ⟨gi,k,none⟩ (.bool true)).alloc (.cells #[.int .i64 k] 3)) g 265 _:=(h1.far ne1 _).alloc _
 have hlt:=h1.lt
 have hlti:=h3.lt
 go_enter Tryz.func207,Tryz.ntmps207
 go_wp2_with (first | (at_builtin;refine Bq _ rfl (.tmp 28) (.tmp 30) 82 rfl 0 3 i0 _ 1 8 Tryz.underlying82 hi0 hz0 hz1 hz2 rfl (by decide) vf l.length (l.reverse.map (.int .i64)) rfl hown1 (w.heap.size+1) (some ⟨w.heap.size,0,none⟩) 1 1 [.int .i64 k] rfl (HU _ _ _ _ _ (by simp) (by simp)) (by simp [Value.oneCell']) (by unfold maxLen;omega) (by omega) (by simp) ?_;intro A1 cp1 w1 hown2 hg1 hat1;have hB2:=hB1.grown hg1 ngf;have c1':=hB2.cell 1;have f1':=hB2.frozen 1;simp at c1') | go_in)
 go_ret
 rw [World.size_alloc] at hat1
 have hsz:(w.setCell ⟨gi,k,none⟩ (.bool true)).heap.size=w.heap.size:=by simp [World.setCell]
 rw [hsz] at hat1
 have hnew:∀ b,(Value.slice A1 (l.length+1) cp1).ownBlock=some b→vf.ownBlock=some b∨w.heap.size≤b:=by
  intro b hb
  rcases hat1 with e | e
  · exact .inl (e ▸ hb)
  · rw [hb] at e;injection e with e;right;omega
 refine ⟨rfl,fun b=>b=g∨b=gi∨(Value.slice A1 (l.length+1) cp1).ownBlock=some b,⟨_,gi,?_,?_,?_,fun b=>Iff.rfl,?_,?_,h7⟩,?_,?_⟩
 · exact hB2.set_ 1 _
 ·
  have hn:(Value.slice A1 (l.length+1) cp1).ownBlock≠some g:=by
   intro e
   rcases hnew g e with h | h
   · exact ngf h
   · omega
  have:=ownsRow_setCell_other (a:=⟨g,1,none⟩) hown2 hn (Value.slice A1 (l.length+1) cp1)
  simpa using this
 ·
  have hr1:w1.rowIs gi 4 N _:=((h3.set k (.bool true)).alloc _).of_block (hg1.block gi (by simp;omega) (fun e=>ngi e.symm))
  refine (hr1.setOther (Ne.symm ne1) _).congr (fun j hj=>?_)
  by_cases e:j=k
  ·
   subst e
   rw [if_pos rfl,Hu (by simp)]
  ·
   rw [if_neg e]
   have:(j:Int)≠(k:Int):=by omega
   simp [inB,this]
 · exact List.nodup_cons.2 ⟨hi,h5⟩
 ·
  intro x hx
  rcases List.mem_cons.1 hx with rfl | hx
  · omega
  · exact h6 x hx
 ·
  have hFg:F g:=(h4 g).2 (.inl rfl)
  have hFi:F gi:=(h4 gi).2 (.inr (.inl rfl))
  have c1:Chg F w ((w.setCell ⟨gi,k,none⟩ (.bool true)).alloc (.cells #[.int .i64 k] 3)):=((Chg.refl F w).setCell (fun _=>hFi) _).alloc _
  exact (c1.grown hg1 (fun j hj _=>(h4 j).2 (.inr (.inr hj)))).setCell (fun _=>hFg) _
 ·
  intro b hb
  rcases hb with rfl | rfl | hb
  · exact .inl ((h4 _).2 (.inl rfl))
  · exact .inl ((h4 _).2 (.inr (.inl rfl)))
  ·
   rcases hnew b hb with h | h
   · exact .inl ((h4 _).2 (.inr (.inr h)))
   · exact .inr h
def upto (n k:Nat):List Int:=(List.range (n - k)).map (fun i=>((k+i:Nat):Int))
theorem ES (n:Nat):upto n n=[]:=by simp [upto]
theorem Pj {n k:Nat} (h:k<n):upto n k=(k:Int) :: upto n (k+1):=by
 unfold upto
 rw [show n - k=(n - (k+1))+1 by omega,List.range_succ_eq_map]
 simp only [List.map_cons,List.map_map,Nat.add_zero,List.cons.injEq,true_and]
 refine List.map_congr_left fun i _=>?_
 simp only [Function.comp]
 omega
theorem Lg {n k:Nat} {x:Int} (h:x ∈ upto n k):k≤x∧x<n:=by
 obtain ⟨i,hi,rfl⟩:=List.mem_map.1 h
 have:=List.mem_range.1 hi
 omega
theorem Pm:(Tryz.prog.info? 4).map (fun i=>(i.zero,i.size,i.bytes))=some (some (.bool false),1,1):=by kernel_rfl
set_option maxHeartbeats 400000 in
theorem Sd (n:Nat) (w:World) (h:n≤4096) :
  Calls Tryz.prog 138 #[.int .i64 n] w fun e w'=>∃ g F,e=.returned (.pointer (some ⟨g,0,none⟩))∧StackP w' g n (upto n 0) F∧Below w.heap.size w w'∧∀ b,F b→w.heap.size≤b:=by
 have hmk:=fun W=>run_make_row' (P:=Tryz.prog) 263 4 (.bool false) 1 Tryz.underlying263 Pm rfl .i64 .i64 n (by omega) (by omega) W
 go_enter Tryz.func138,Tryz.ntmps138
 go_wp2_with fail
 clear hmk
 go_loopw [4] (fun i wr=>∃ k F,k≤n∧i=.int .i64 ((k:Int) - 1)∧StackP wr (w.heap.size+1) n (upto n k) F∧Below w.heap.size w wr∧∀ b,F b→w.heap.size≤b)
  (fun i _=>(intOf i+1).toNat)
 case atStart =>
  refine ⟨n,fun b=>b=w.heap.size+1∨b=w.heap.size,Nat.le_refl _,by first | rfl | go_num,⟨.slice none 0 0,w.heap.size,?_,?_,?_,?_,?_,?_,h⟩,bw,fun b hb=>by omega⟩
  · simpa using Blk.new (w.alloc (.cells (madeCells #[.bool false] n) 4)) 265 _
  ·
   rw [ES]
   exact World.ownsRow_nil _ _ _ _
  ·
   refine ((World.rowIs_made w (.bool false) n 4).alloc _).congr (fun i hi=>?_)
   rw [ES]
   rfl
  ·
   intro b
   simp [Value.ownBlock]
  · rw [ES];exact List.nodup_nil
  · rw [ES];intro x hx;cases hx
 case round =>
  obtain ⟨k,F,hk,rfl,hS,hb,hF⟩:=hrel
  by_cases hz:k=0
  ·
   subst hz
   have h0:¬ (0≤((0:Nat):Int) - 1):=by omega
   go_wp2_with fail
   go_ret
   exact ⟨_,rfl,F,hS,hb,hF⟩
  ·
   obtain ⟨j,rfl⟩:∃ j,k=j+1:=⟨k - 1,by omega⟩
   clear hz
   have h0:0≤(j:Int):=by omega
   have hs:=Pj (show j<n by omega)
   have C:=Lf (w.heap.size+1) n (upto n (j+1)) F j wr hS (by omega) (by omega) (fun hm=>by have:=Lg hm;omega)
   rw [← hs] at C
   replace C:=Lib.hid C
   clear hs
   go_wp2_with fail
   refine C.out.mono ?_
   rintro e w1 ⟨rfl,F',hS',hch,hF'⟩
   go_wp2_with fail
   go_roundw
   case rel =>
    refine ⟨j,F',by omega,by go_num,hS',Ar hb hch (fun b hb e=>by have:=hF b e;omega) hb.size,fun b hb'=>?_⟩
    have:=hb.size
    rcases hF' b hb' with h | h
    · exact hF b h
    · omega
   case measure=>simp [intOf]
def RefP (w:World) (g N:Nat) (l:List Int) (F:Nat→Prop):Prop :=
 ∃ A c,Blk w g 144 #[.int .i64 N,.slice A l.length c]∧Reads w w.heap.size 1 A l.length (l.map (.int .i64))∧(∀ b,F b ↔ b=g∨∃ ad,A=some ad∧ad.block=b) ∧
  (∀ ad,A=some ad→ad.block≠g∧ad.block<w.heap.size)∧l.length≤c
theorem RefP.chg {w w':World} {g N:Nat} {l:List Int} {F G:Nat→Prop} (h:RefP w g N l F) (k:Chg G w w') (hd:∀ b,F b→¬ G b):RefP w' g N l F:=by
 obtain ⟨A,c,h1,h2,h3,h4,h5⟩:=h
 exact ⟨A,c,h1.chg k (hd _ ((h3 _).2 (.inl rfl))),h2.chg k (fun ad e=>hd _ ((h3 _).2 (.inr ⟨ad,e,rfl⟩))),h3,fun ad e=>⟨(h4 ad e).1,Nat.lt_of_lt_of_le (h4 ad e).2 k.size⟩,h5⟩
theorem RefP.lt {w:World} {g N:Nat} {l:List Int} {F:Nat→Prop} (h:RefP w g N l F) {b:Nat} (hb:F b):b<w.heap.size:=by
 obtain ⟨A,c,h1,h2,h3,h4,_⟩:=h
 rcases (h3 b).1 hb with rfl | ⟨ad,e,rfl⟩
 · exact h1.lt
 · exact (h4 ad e).2
theorem QL (g N:Nat) (l:List Int) (F:Nat→Prop) (i:Int) (w:World) (h:RefP w g N l F) (hl:l.length≤1000000) :
  Calls Tryz.prog 273 #[.pointer (some ⟨g,0,none⟩),.int .i64 i] w fun e w'=>e=.returned (.bool (inB l i))∧w=w':=by
 obtain ⟨A,c,h1,h2,h3,h4,h5⟩:=h
 have c1:=h1.cell 1
 simp at c1
 go_enter Tryz.func273,Tryz.ntmps273
 go_wp2_with fail
 go_loop [5] (fun k=>∃ k':Nat,k'≤l.length∧k=.int .i64 k'∧∀ j,j<k'→l.getD j 0≠i) (fun k=>l.length - (intOf k).toNat)
 case atStart=>exact ⟨0,Nat.zero_le _,rfl,by omega⟩
 case round =>
  obtain ⟨k,hk,rfl,hj⟩:=hrel
  replace hj:=Lib.hid hj
  by_cases hlt:k<l.length
  ·
   obtain ⟨ad,rfl,had,hc⟩:=h2.int_at hlt
   obtain ⟨x,hx⟩:∃ x,x=l.getD k 0:=⟨_,rfl⟩
   rw [← hx] at hc
   replace hx:=Lib.hid hx
   by_cases hxi:x=i
   ·
    have hb:(x==i)=true:=by simp [hxi]
    replace hxi:=Lib.hid hxi
    go_wp2_with fail
    go_ret
    refine ⟨Cq ?_,rfl⟩
    symm
    refine Hu ?_
    have e:=hx.out
    rw [List.getD_eq_getElem?_getD,List.getElem?_eq_getElem hlt,hxi.out] at e
    simp only [Option.getD_some] at e
    rw [e]
    exact List.getElem_mem hlt
   ·
    have hb:(x==i)=false:=by simp [hxi]
    replace hxi:=Lib.hid hxi
    go_wp2_with fail
    go_round
    case rel =>
     refine ⟨k+1,by omega,by go_num,fun j hj'=>?_⟩
     by_cases e:j=k
     · subst e;rw [← hx.out];exact hxi.out
     · exact hj.out j (by omega)
    case measure=>simp [intOf];omega
  ·
   go_wp2_with fail
   go_ret
   refine ⟨Cq ?_,rfl⟩
   symm
   refine K7 fun hm=>?_
   obtain ⟨j,hjl,e⟩:=List.getElem_of_mem hm
   have:=hj.out j (by omega)
   rw [List.getD_eq_getElem?_getD,List.getElem?_eq_getElem hjl] at this
   exact this e
theorem refpop (g N:Nat) (l:List Int) (F:Nat→Prop) (w:World) (h:RefP w g N l F) (hl:l.length≤1000000) :
  Calls Tryz.prog 152 #[.pointer (some ⟨g,0,none⟩)] w fun e w'=>e=.returned (.tuple #[.int .i64 (l.headD 0),.bool (!l.isEmpty)])∧RefP w' g N l.tail F∧Chg F w w':=by
 have H:=h
 obtain ⟨A,c,h1,h2,h3,h4,h5⟩:=h
 have c1:=h1.cell 1
 simp at c1
 cases l with
 | nil =>
  go_enter Tryz.func152,Tryz.ntmps152
  go_wp2_with fail
  go_ret2
  exact ⟨rfl,H,Chg.refl _ _⟩
 | cons x l =>
  obtain ⟨ad,rfl,had,hc⟩:=h2.int_at (i:=0) (by simp)
  have f1:=h1.frozen 1
  simp at hc c1
  have hc0:w.cell? ad=some (.int .i64 x):=by simpa [Addr.add] using hc
  clear hc
  have hl0:(0:Int)<(l.length:Int)+1:=by omega
  have hc1:l.length+1≤c:=by simpa using h5
  go_enter Tryz.func152,Tryz.ntmps152
  have hne:ad.block≠g:=(h4 ad rfl).1
  have R:=h2.cut (k:=1) (cap:=c) (by simp) h5
  simp only [Nat.mul_one,List.length_cons,Nat.add_sub_cancel,List.map_cons,List.drop_succ_cons,List.drop_zero] at R
  replace R:=Lib.hid R
  go_wp2_with fail
  all_goals go_ret2
  case inr =>
   have hcc:¬ c=1:=by assumption
   have R:=R.out
   rw [if_neg hcc] at R
   simp only [Option.map_some] at R
   have e:ad.add 1=⟨ad.block,ad.off+1,none⟩:=by simp [Addr.add]
   rw [e] at R
   refine ⟨rfl,⟨some ⟨ad.block,ad.off+1,none⟩,c - 1,h1.set_ 1 _,?_,?_,?_,by simp only [List.length_cons] at h5;omega⟩,(Chg.refl _ _).setCell (fun _=>(h3 g).2 (.inl rfl)) _⟩
   · exact R.chg (F:=(·=g)) ((Chg.refl (·=g) w).setCell (p:=⟨g,1,none⟩) (fun _=>rfl) _) (fun a e=>by injection e with e;rw [← e];exact hne)
   · intro b;rw [h3];simp
   ·
    intro a e;injection e with e;rw [← e]
    exact ⟨hne,by simpa [World.setCell] using had⟩
  case inl =>
   have hcc:c=1:=by assumption
   have R:=R.out
   rw [if_pos hcc] at R
   refine ⟨rfl,⟨some ad,0,h1.set_ 1 _,?_,?_,?_,by simp only [List.length_cons] at h5;omega⟩,(Chg.refl _ _).setCell (fun _=>(h3 g).2 (.inl rfl)) _⟩
   · exact R.chg (F:=(·=g)) ((Chg.refl (·=g) w).setCell (p:=⟨g,1,none⟩) (fun _=>rfl) _) (fun a e=>by injection e with e;rw [← e];exact hne)
   · exact h3
   ·
    intro a e;injection e with e;rw [← e]
    exact ⟨hne,by simpa [World.setCell] using had⟩
def seqTo (n:Nat):List Int:=(List.range n).map (fun i:Nat=>(i:Int))
theorem GD (n:Nat):upto n 0=seqTo n:=by simp [upto,seqTo]
theorem MT (k:Nat):seqTo (k+1)=seqTo k ++ [(k:Int)]:=by simp [seqTo,List.range_succ]
theorem En (k:Nat):(seqTo k).length=k:=by simp [seqTo]
set_option maxRecDepth 100000 in
set_option maxHeartbeats 400000 in
theorem MU (n:Nat) (w:World) (h:n≤4096) :
  Calls Tryz.prog 139 #[.int .i64 n] w fun e w'=>∃ g F,e=.returned (.pointer (some ⟨g,0,none⟩))∧RefP w' g n (seqTo n) F∧Below w.heap.size w w'∧∀ b,F b→w.heap.size≤b:=by
 obtain ⟨i0,hi0,hz0,hz1,hz2⟩:=info_parts E3
 go_enter Tryz.func139,Tryz.ntmps139
 go_wp2_with fail
 go_loopw [4] (fun i wr=>∃ k A c,k≤n∧i=.int .i64 (k:Nat)∧Blk wr w.heap.size 144 #[.int .i64 n,.slice A k c]∧wr.ownsRow (w.heap.size+1) 3 1 (.slice A k c) k ((seqTo k).map (.int .i64))∧Below w.heap.size w wr∧w.heap.size+1≤wr.heap.size)
  (fun i _=>(n - intOf i).toNat)
 case atStart =>
  exact ⟨0,none,0,Nat.zero_le _,rfl,Blk.new w 144 _,World.ownsRow_nil _ _ _ _,bw,by simp⟩
 case round =>
  obtain ⟨k,A,c,hk,rfl,hB,hown,hb,hsz⟩:=hrel
  have c1:=hB.cell 1
  simp at c1
  by_cases hlt:k<n
  ·
   have hB1:=hB.alloc (.cells #[.int .i64 k] 3)
   have hown1:=hown.alloc (.cells #[.int .i64 k] 3)
   have hng:(Value.slice A k c).ownBlock≠some w.heap.size:=fun e=>by have:=(hown.lt _ e).1;omega
   go_wp2_with (at_builtin;refine Bq _ rfl (.tmp 23) (.tmp 25) 82 rfl (w.heap.size+1) 3 i0 _ 1 8 Tryz.underlying82 hi0 hz0 hz1 hz2 rfl (by decide) (.slice A k c) k ((seqTo k).map (.int .i64)) rfl hown1 (wr.heap.size+1) (some ⟨wr.heap.size,0,none⟩) 1 1 [.int .i64 k] rfl (HU _ _ _ _ _ (by simp) (by simp)) (by simp [Value.oneCell']) (by unfold maxLen;omega) (by omega) (by simp;omega) ?_;intro A1 cp1 w1 hown2 hg1 hat1;have hB2:=hB1.grown hg1 hng;have c1':=hB2.cell 1;have f1':=hB2.frozen 1;simp at c1')
   have hz1:=hg1.size
   rw [World.size_alloc] at hz1
   go_roundw
   case rel =>
    refine ⟨k+1,A1,cp1,by omega,by go_num,hB2.set_ 1 _,?_,?_,by simp [World.setCell];omega⟩
    ·
     rw [MT,List.map_append]
     exact ownsRow_setCell_other hown2 (fun e=>by have:=(hown2.lt _ e).1;simp at this;omega) _
    ·
     refine ((hb.alloc (by omega) _).grown hg1 (by simp;omega) (fun j hj=>?_)).setCell (Nat.le_refl _) _
     have:=(hown.lt _ hj).1
     omega
   case measure=>simp [intOf];omega
  ·
   obtain rfl:k=n:=by omega
   go_wp2_with fail
   go_ret
   refine ⟨_,fun b=>b=w.heap.size∨∃ ad,A=some ad∧ad.block=b,rfl,⟨A,c,?_,?_,fun b=>Iff.rfl,?_,?_⟩,hb,?_⟩
   · rw [En];exact hB
   · rw [En];exact Reads.of_own hown
   ·
    intro ad e;subst e
    have:=hown.lt _ rfl
    exact ⟨by omega,this.2⟩
   ·
    rw [En]
    rcases hown.2 with ⟨e,e2⟩ | ⟨_,_,_,e,_,_,hc,_⟩
    · omega
    · injection e with _ _ e;rw [e];exact hc
   ·
    intro b hb'
    rcases hb' with rfl | ⟨ad,e,rfl⟩
    · exact Nat.le_refl _
    · subst e;have:=(hown.lt _ rfl).1;omega
def BV (N:Nat) (l:List Int) (i:Int):Bool:=decide (0≤i) && decide (i<N) && !inB l i
theorem MV (g N:Nat) (l:List Int) (F:Nat→Prop) (i:Int) (w:World) (h:RefP w g N l F) (hl:l.length≤1000000) (hi:i<0∨N≤i∨i ∈ l) :
  Calls Tryz.prog 230 #[.pointer (some ⟨g,0,none⟩),.int .i64 i] w fun e w'=>e=.returned (.bool false)∧w=w':=by
 have H:=h
 obtain ⟨A,c,h1,h2,h3,h4,h5⟩:=h
 have c0:=h1.cell 0
 simp at c0
 by_cases h0:i<0
 ·
  clear hi
  go_enter Tryz.func230,Tryz.ntmps230
  go_wp2_with fail
  go_ret
  exact ⟨rfl,rfl⟩
 ·
  by_cases hN:(N:Int)≤i
  ·
   clear hi
   go_enter Tryz.func230,Tryz.ntmps230
   go_wp2_with fail
   go_ret
   exact ⟨rfl,rfl⟩
  ·
   have hm:i ∈ l:=by
    rcases hi with h | h | h
    · omega
    · omega
    · exact h
   have hb:=Hu hm
   clear hi hm
   go_enter Tryz.func230,Tryz.ntmps230
   go_wp2_with (go_at_call 273;refine (QL g N l F i _ H hl).mono ?_;rintro e w1 ⟨rfl,rfl⟩)
   go_ret
   exact ⟨rfl,rfl⟩
set_option maxRecDepth 100000 in
theorem Lh (g N:Nat) (l:List Int) (F:Nat→Prop) (i:Int) (w:World) (h:RefP w g N l F) (hl:l.length≤1000000) (h0:0≤i) (hN:i<N) (hi:i ∉ l) :
  Calls Tryz.prog 230 #[.pointer (some ⟨g,0,none⟩),.int .i64 i] w fun e w'=>e=.returned (.bool true)∧∃ F',RefP w' g N (i :: l) F'∧Chg F w w'∧∀ b,F' b→F b∨w.heap.size≤b:=by
 obtain ⟨i0,hi0,hz0,hz1,hz2⟩:=info_parts E3
 have H:=h
 obtain ⟨A,c,h1,h2,h3,h4,h5⟩:=h
 have c0:=h1.cell 0
 have c1:=h1.cell 1
 simp at c0 c1
 have f1:=h1.frozen 1
 have hb:=K7 hi
 have hlt:=h1.lt
 have hB1:=h1.alloc (.cells #[.int .i64 i] 3)
 have hown:(w.alloc (.cells #[.int .i64 i] 3)).ownsRow 0 3 1 (.slice (some ⟨w.heap.size,0,none⟩) 1 1) 1 [.int .i64 i]:=S9 w 0 3 [.int .i64 i] (Nat.zero_le _) (by unfold maxLen;simp)
 have hR:=h2.alloc (Nat.le_refl _) (.cells #[.int .i64 i] 3)
 have hng:(Value.slice (some ⟨w.heap.size,0,none⟩) 1 1).ownBlock≠some g:=by simp [Value.ownBlock];omega
 clear h2
 go_enter Tryz.func230,Tryz.ntmps230
 go_wp2_with (first | (go_at_call 273;refine (QL g N l F i _ H hl).mono ?_;rintro e w1 ⟨rfl,rfl⟩) | (at_builtin;refine Bq _ rfl (.tmp 24) (.tmp 28) 82 rfl 0 3 i0 _ 1 8 Tryz.underlying82 hi0 hz0 hz1 hz2 rfl (by decide) (.slice (some ⟨w.heap.size,0,none⟩) 1 1) 1 [.int .i64 i] rfl hown w.heap.size A l.length c (l.map (.int .i64)) rfl hR (QK l) (by unfold maxLen;omega) (by omega) (by simp) ?_;intro A1 cp1 w1 hown2 hg1 hat1;have hB2:=hB1.grown hg1 hng;have c1':=hB2.cell 1;have f1':=hB2.frozen 1;simp at c1'))
 go_ret
 refine ⟨rfl,?_⟩
 rw [World.size_alloc] at hat1
 have hl2:(i :: l).length=1+l.length:=by simp;omega
 have hlt2:=hown2.lt
 have hnew:∀ ad,A1=some ad→w.heap.size≤ad.block:=by
  intro ad e
  subst e
  rcases hat1 with e | e <;> (simp [Value.ownBlock] at e;omega)
 refine ⟨fun b=>b=g∨∃ ad,A1=some ad∧ad.block=b,⟨A1,cp1,?_,?_,fun b=>Iff.rfl,?_,?_⟩,?_,?_⟩
 · rw [hl2];exact hB2.set_ 1 _
 ·
  have R:=Reads.of_own hown2
  rw [hl2]
  exact R.chg (F:=(·=g)) ((Chg.refl (·=g) w1).setCell (p:=⟨g,1,none⟩) (fun _=>rfl) _) (fun a e=>by have:=hnew a e;omega)
 ·
  intro ad e
  have h:=hnew ad e
  subst e
  have:=(hlt2 ad.block rfl).2
  exact ⟨by omega,by simpa [World.setCell] using this⟩
 ·
  rcases hown2.2 with ⟨e,e2⟩ | ⟨_,_,_,e,_,_,hc,_⟩
  · omega
  · injection e with _ _ e;rw [hl2,e];exact hc
 ·
  have hFg:F g:=(h3 g).2 (.inl rfl)
  exact (((Chg.refl F w).alloc _).grown hg1 (fun k hk hlt=>by simp [Value.ownBlock] at hk;omega)).setCell (fun _=>hFg) _
 ·
  intro b hb
  rcases hb with rfl | ⟨ad,e,rfl⟩
  · exact .inl ((h3 _).2 (.inl rfl))
  · exact .inr (hnew ad e)
def pushL (N:Nat) (l:List Int) (i:Int):List Int:=if BV N l i then i :: l else l
theorem QM (g N:Nat) (l:List Int) (F:Nat→Prop) (i:Int) (w:World) (h:StackP w g N l F) :
  Calls Tryz.prog 207 #[.pointer (some ⟨g,0,none⟩),.int .i64 i] w fun e w'=>e=.returned (.bool (BV N l i))∧∃ F',StackP w' g N (pushL N l i) F'∧Chg F w w'∧∀ b,F' b→F b∨w.heap.size≤b:=by
 by_cases hi:0≤i∧i<N∧i ∉ l
 ·
  have e:BV N l i=true:=by simp [BV,hi,inB]
  have e2:pushL N l i=i :: l:=by simp [pushL,e]
  rw [e,e2]
  exact Lf g N l F i w h hi.1 hi.2.1 hi.2.2
 ·
  have hn:i<0∨N≤i∨i ∈ l:=by
   by_cases h1:i ∈ l
   · exact .inr (.inr h1)
   ·
    by_cases h2:i<0
    · exact .inl h2
    ·
     refine .inr (.inl ?_)
     rcases Int.lt_or_le i N with h3 | h3
     · exact absurd ⟨by omega,h3,h1⟩ hi
     · exact h3
  have e:BV N l i=false:=by
   rcases hn with h | h | h
   · simp [BV];omega
   · simp [BV];omega
   · simp [BV,inB,h]
  have e2:pushL N l i=l:=by simp [pushL,e]
  rw [e,e2]
  refine (Sc g N l F i w h hn).mono ?_
  rintro e w' ⟨rfl,rfl⟩
  exact ⟨rfl,F,h,Chg.refl _ _,fun b hb=>.inl hb⟩
theorem Li (g N:Nat) (l:List Int) (F:Nat→Prop) (i:Int) (w:World) (h:RefP w g N l F) (hl:l.length≤1000000) :
  Calls Tryz.prog 230 #[.pointer (some ⟨g,0,none⟩),.int .i64 i] w fun e w'=>e=.returned (.bool (BV N l i))∧∃ F',RefP w' g N (pushL N l i) F'∧Chg F w w'∧∀ b,F' b→F b∨w.heap.size≤b:=by
 by_cases hi:0≤i∧i<N∧i ∉ l
 ·
  have e:BV N l i=true:=by simp [BV,hi,inB]
  have e2:pushL N l i=i :: l:=by simp [pushL,e]
  rw [e,e2]
  exact Lh g N l F i w h hl hi.1 hi.2.1 hi.2.2
 ·
  have hn:i<0∨N≤i∨i ∈ l:=by
   by_cases h1:i ∈ l
   · exact .inr (.inr h1)
   ·
    by_cases h2:i<0
    · exact .inl h2
    ·
     refine .inr (.inl ?_)
     rcases Int.lt_or_le i N with h3 | h3
     · exact absurd ⟨by omega,h3,h1⟩ hi
     · exact h3
  have e:BV N l i=false:=by
   rcases hn with h | h | h
   · simp [BV];omega
   · simp [BV];omega
   · simp [BV,inB,h]
  have e2:pushL N l i=l:=by simp [pushL,e]
  rw [e,e2]
  refine (MV g N l F i w h hl hn).mono ?_
  rintro e w' ⟨rfl,rfl⟩
  exact ⟨rfl,F,h,Chg.refl _ _,fun b hb=>.inl hb⟩
end Go.Proofs.YteklkljndchjiaaGreat
