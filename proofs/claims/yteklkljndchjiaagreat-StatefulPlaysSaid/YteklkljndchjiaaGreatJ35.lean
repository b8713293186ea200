/- table: the document's wheel told by its blocks; what the document's table is in memory. -/
import Derived.Test.YteklkljndchjiaaGreatJ31
namespace Go.Proofs.YteklkljndchjiaaGreat
open Go Go.RowKit Go.Deep Go.Maps Go.ChangeMaps
def RWheelP (w:World) (g:Nat) (G now:Int) (M:LM) (Y:Nat→Prop):Prop :=
 ∃ A c B d,RWhAt w g G now M A c B d∧(∀ b,Y b ↔ rwF g A B b)∧AA M∧(∀ x ∈ M,0≤x.1∧x.1≤4095∧0≤x.2∧x.2≤2199023255552)∧(1≤G∧G≤1024)∧(0≤now∧now≤1099511627776)
section
variable {w w':World} {g:Nat} {G now:Int} {M:LM} {Y F:Nat→Prop}
theorem RWheelP.chg (h:RWheelP w g G now M Y) (k:Chg F w w') (hd:∀ b,Y b→¬ F b):RWheelP w' g G now M Y:=by
 obtain ⟨A,c,B,d,h1,h2,h3⟩:=h
 exact ⟨A,c,B,d,h1.chg k (fun b hw=>hd b ((h2 b).2 hw)),h2,h3⟩
theorem RWheelP.lt (h:RWheelP w g G now M Y) {b:Nat} (hb:Y b):b<w.heap.size:=by
 obtain ⟨A,c,B,d,h1,h2,h3⟩:=h
 exact h1.lt ((h2 b).1 hb)
theorem RWheelP.gY (h:RWheelP w g G now M Y):Y g:=by
 obtain ⟨A,c,B,d,h1,h2,h3⟩:=h
 exact (h2 g).2 (.inl rfl)
theorem RWheelP.now_ (h:RWheelP w g G now M Y):w.cell? ⟨g,1,none⟩=some (.int .i64 now):=by
 obtain ⟨A,c,B,d,h1,h2,h3⟩:=h
 exact h1.cells.2.1
theorem RWheelP.rng (h:RWheelP w g G now M Y):(1≤G∧G≤1024)∧(0≤now∧now≤1099511627776):=by
 obtain ⟨A,c,B,d,h1,h2,h3⟩:=h
 exact h3.2.2
theorem Mf (G:Int) (w:World) (h:1≤G∧G≤1024):Calls Tryz.prog 73 #[.int .i64 G] w fun e w'=>∃ g Y,e=.returned (.pointer (some ⟨g,0,none⟩))∧RWheelP w' g G 0 [] Y∧Below w.heap.size w w'∧∀ b,Y b→w.heap.size≤b:=by
 refine (Gq G w h).mono ?_
 rintro e w' ⟨rfl,h1,hb⟩
 refine ⟨_,_,rfl,⟨none,0,none,0,h1,fun b=>Iff.rfl,List.Pairwise.nil,fun x hx=>(by cases hx),h,by omega⟩,hb,fun b hx=>?_⟩
 rcases hx with rfl | hx | hx
 · exact Nat.le_refl _
 · exact absurd hx Ba
 · exact absurd hx Ba
theorem Mg (h:RWheelP w g G now M Y) (n:Nat) (hn:n<4096) (due:Int) (hd:0≤due∧due≤2199023255552) (hM:M.length≤100000) :
  Calls Tryz.prog 156 #[.pointer (some ⟨g,0,none⟩),.int .i64 (n:Int),.int .i64 due] w fun e w'=>e=.returned (.bool true)∧∃ Y',RWheelP w' g G now (lmPut M n due) Y'∧Chg Y w w'∧∀ b,Y' b→Y b∨w.heap.size≤b:=by
 obtain ⟨A,c,B,d,h1,h2,h3,h4,h5,h6⟩:=h
 refine (Kr h1 hM n hn due hd).mono ?_
 rintro e w' ⟨rfl,A',c',B',d',k1,k2,k3⟩
 refine ⟨rfl,_,⟨A',c',B',d',k1,fun b=>Iff.rfl,Gg h3 _ _,fun x hx=>?_,h5,h6⟩,k3.mono fun b _ hb=>(h2 b).2 (.inl hb),fun b hb=>?_⟩
 ·
  rcases Cf.1 hx with rfl | hx
  · exact ⟨by omega,by show (n:Int)≤4095;omega,hd.1,hd.2⟩
  · exact h4 x (List.mem_filter.1 hx).1
 ·
  rcases hb with rfl | hb
  · exact .inl ((h2 _).2 (.inl rfl))
  · exact .inr (k2 b hb)
theorem Jd (h:RWheelP w g G now M Y) (hM:M.length≤100000) (id:Int) :
  Calls Tryz.prog 223 #[.pointer (some ⟨g,0,none⟩),.int .i64 id] w fun e w'=>e=.returned (.bool (lmHas M id))∧∃ Y',RWheelP w' g G now (lmDel M id) Y'∧Chg Y w w'∧∀ b,Y' b→Y b∨w.heap.size≤b:=by
 obtain ⟨A,c,B,d,h1,h2,h3,h4,h5,h6⟩:=h
 refine (Dw h1 hM id).mono ?_
 rintro e w' ⟨rfl,A',c',B',d',k1,k2,k3⟩
 refine ⟨rfl,_,⟨A',c',B',d',k1,fun b=>Iff.rfl,Dg h3 _,fun x hx=>h4 x (List.mem_filter.1 hx).1,h5,h6⟩,k3.mono fun b _ hb=>(h2 b).2 (.inl hb),fun b hb=>?_⟩
 rcases hb with rfl | hb
 · exact .inl ((h2 _).2 (.inl rfl))
 · exact .inr (k2 b hb)
theorem NL (h:RWheelP w g G now M Y) (hM:M.length≤100000) (nw:Int) {S:List Int} (hS:GoS G now nw M S) :
  Calls Tryz.prog 172 #[.pointer (some ⟨g,0,none⟩),.int .i64 nw] w fun e w'=>∃ (B:Option Addr) (q:Nat),e=.returned (.tuple #[.slice B S.length q,.int .i64 (goE now nw)])∧Reads w' w'.heap.size 1 B S.length (S.map (.int .i64))∧(∀ b,InB B b→w.heap.size≤b)∧∃ Y',RWheelP w' g G (goN now nw) (Av M S) Y'∧(∀ b,InB B b→¬ Y' b)∧Chg Y w w'∧∀ b,Y' b→Y b∨w.heap.size≤b:=by
 obtain ⟨A,c,B,d,h1,h2,h3,h4,h5,h6⟩:=h
 unfold goE goN
 cases hk:goOk now nw
 ·
  have hk2:=hk
  unfold goOk at hk2
  rw [decide_eq_false_iff_not] at hk2
  refine (Ij h1 nw (by omega)).mono ?_
  rintro e w' ⟨rfl,rfl⟩
  obtain rfl:=hS.no hk
  exact ⟨none,0,rfl,⟨rfl,fun h=>absurd h (by decide)⟩,fun b hb=>absurd hb Ba,Y,⟨A,c,B,d,h1,h2,h3,h4,h5,h6⟩,fun b hb=>absurd hb Ba,Chg.refl _ _,fun b hb=>.inl hb⟩
 ·
  have hk2:=hk
  unfold goOk at hk2
  rw [decide_eq_true_eq] at hk2
  refine (Ma h1 h3 (fun x hx=>(h4 x hx).2.2) hM h5 nw hk2).mono ?_
  rintro e w' ⟨P,q,D,A',c',B',d',rfl,k1,k2,k3,k4,k5,k6,k7⟩
  obtain rfl:S=D:=k2.done h3 k3 (hS.mem hk) hS.nd hS.pw
  refine ⟨P,q,rfl,k1.ints,fun b hb=>(k1.block hb).1,_,⟨A',c',B',d',k4,fun b=>Iff.rfl,CJ _ h3,fun x hx=>h4 x (FB _ hx),h5,by omega⟩,k7,k6.mono fun b _ hb=>(h2 b).2 (.inl hb),fun b hb=>?_⟩
  rcases hb with rfl | hb
  · exact .inl ((h2 _).2 (.inl rfl))
  ·
   rcases k5 b hb with h7 | h7
   · exact .inr h7
   · exact .inl ((h2 b).2 (.inr h7))
end
end Go.Proofs.YteklkljndchjiaaGreat
