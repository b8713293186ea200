/- an append as a step of a region that draws its order. -/
import Derived.Test.YteklkljndchjiaaGreatJ9
import Derived.Deep.AppendLies
import Derived.Deep.RegionLaw
namespace Go.Proofs.YteklkljndchjiaaGreat
open Go Go.RowKit Go.Deep
theorem step_push {P : Program} {W : World} {e : TypeId} {cs : Array Value} {α : Type} (cells : α → List Value) (m : Nat) (hm : ∀ a, (cells a).length = m) (h1 : ∀ a, ∀ u ∈ cells a, u.oneCell' = true) (hm0 : 0 < m)
  (t : TypeId) (i : TypeInfo) (z : Value) (bytes : Nat) (ht : P.underlying t = some (.slice e)) (hi : P.info? e = some i) (hz : i.zero = some z) (hsize : i.size = m) (hby : i.bytes = bytes) (hzs : z.cells.size = m) (hbb : bytes ≤ 1000)
  {ops : Array Oper} {o : Oper} {a : Act} {K : Act → World → Prop} {Q : Exit → Act → World → Prop} {E : Prop} (hgd : o.guard = none) (s x : Operand)
  (ho : o.op = .call { callee := .builtin .append, args := #[s, x], argTypes := #[t, t] })
  (base : Nat) (A : Option Addr) (c : Nat) (l : List α) (v : α) (n : Nat) (hn : l.length = n) (hs : a.eval s = .slice A n c) (hown : OwnA cells m e W base A c l) (g : Nat) (hg : g = W.heap.size) (hcs : (cells v).toArray = cs)
  (hx : a.eval x = .slice (some ⟨g, 0, none⟩) 1 1) (hl : l.length ≤ 1000000) (hbase : base ≤ W.heap.size)
  (h : ∀ A' c' w', OwnA cells m e w' base A' c' (l ++ [v]) → Pushed W w' A A' → K (a.put o.dst (.slice A' (n + 1) c')) w') :
  if Region.wanted o (yielded ops a.tmps) = true then Oper.wp P o a (W.alloc (.cells cs e)) K Q else E := by
 subst hg hcs hn
 have hsz : (W.alloc (.cells (cells v).toArray e)).heap.size = W.heap.size + 1 := by simp
 have hb : (W.alloc (.cells (cells v).toArray e)).heap[W.heap.size]? = some (.cells (cells v).toArray e (0, 0)) := Blk.new W e (cells v).toArray
 refine step_append_lies _ hgd s x t ho base e i z m bytes ht hi hz hsize hby hzs hm0 (.slice A l.length c) l.length (l.flatMap cells) hs (hown.alloc _) ⟨W.heap.size, 0, none⟩ 1 1 (cells v) hx (by rw [hm]; omega) ?_ (h1 v) (by omega) (by unfold maxLen; omega) ?_ (by rw [hsz]; omega) (W.heap.size + 1) hsz ?_
 ·
  intro j u hu
  exact World.news_of_block hb j u (by simpa using hu)
 ·
  have : (l.length + 1) * bytes ≤ 1000001 * 1000 := Nat.mul_le_mul (by omega) hbb
  omega
 ·
  intro g' cap w' hown' hg' hat hlt
  have hA : ∀ k, (Value.slice A l.length c).ownBlock = some k ↔ InB A k := hown.own_block
  have hO : OwnA cells m e w' base (some ⟨g', 0, none⟩) cap (l ++ [v]) := by
   unfold OwnA
   rw [List.length_append, List.flatMap_append]
   simpa using hown'
  refine h _ cap w' hO ⟨?_, ?_⟩
  · exact ((Chg.refl _ W).alloc _).grown hg' (fun k hk _ => (hA k).1 hk)
  ·
   rintro b ⟨ad, e1, rfl⟩
   cases e1
   rcases hat with h2 | h2
   · exact .inl ((hA _).1 h2)
   ·
    right
    show W.heap.size ≤ g'
    omega
end Go.Proofs.YteklkljndchjiaaGreat
