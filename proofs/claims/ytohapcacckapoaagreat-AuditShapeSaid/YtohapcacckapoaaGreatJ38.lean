/- table: the document's list of live entries, in plain words. table: the document's table in memory: look, At. table: the document's put. table: the document's put, walked. table: the document's table goes on; its parts and how they are put back; gone. table: the document's gone. table: the document's table as the code's own state tells it; Close. table: the document's Touch. table: .. -/
import Derived.Test.YtohapcacckapoaaGreatJ36
import Derived.Test.YtohapcacckapoaaGreatJ37
import Derived.Deep.MidRow
import Derived.Deep.CutRange
import Derived.StillTailTactics
import Derived.Deep.RegionHeld3
import Derived.Deep.CutBlock
import Derived.Laws.StructEq
import Derived.Test.YtohapcacckapoaaGreatJ32
namespace Go.Proofs.YtohapcacckapoaaGreat
open Go Go.RowKit Go.Deep Go.Maps Go.ChangeMaps
def putL (L : List Slt) (x : Slt) : List Slt := L.filter (fun y => decide (y.sl < x.sl)) ++ x :: L.filter (fun y => decide (x.sl < y.sl))
def delL (L : List Slt) (i : Int) : List Slt := L.filter fun y => !(y.sl == i)
def liveE (E : Nat → Slt) (n : Nat) : List Slt := entsOf E (allL E (fun _ => true) n)
section
variable {E : Nat → Slt} {n : Nat} {s : TSt}
end
theorem run_loadAt_ent (w : World) (a : Addr) (x : Slt) (hc : ∀ j u, x.ent[j]? = some u → w.cell? (a.add j) = some u) : (Instr.loadAt 101 (.pointer (some a))).run Tryz.prog w = .ok (.agg x.entA) w := by
 have hl : (loadCells a 14).run Tryz.prog w = .ok x.ent.toArray w := run_loadCells_list (P := Tryz.prog) w a x.ent hc
 have hs : (Tryz.prog.info? 101).map (·.size) = some 14 := by kernel_rfl
 cases hq : Tryz.prog.info? 101 with
 | none => simp [hq] at hs
 | some i =>
  have hs2 : i.size = 14 := by simpa [hq] using hs
  have hagg : (isAgg 101).run Tryz.prog w = .ok true w := by
   unfold isAgg
   rw [Sem.run_bind, run_underlying Tryz.underlying101 w]
   rfl
  simp only [Instr.loadAt, Instr.sureAddr, Sem.run_bind, Sem.run_pure, Result.andThen_ok]
  simp [loadVar, Sem.run_bind, hagg, sizeOf, typeInfo, hq, hs2, hl]
theorem wpList_load_entR {ops : Array Oper} {rest : List Oper} {op : Oper} {a : Act} {w : World} {Q : Exit → Act → World → Prop} (hgd : op.guard = none) (y : Operand) (ho : op.op = .load 101 y) (ad : Addr) (hx : a.eval y = .pointer (some ad)) (x : Slt)
  (hc : ∀ j u, x.ent[j]? = some u → w.cell? (ad.add j) = some u) (h : wpList Tryz.prog ops Q rest (a.put op.dst (.agg x.entA)) w) : wpList Tryz.prog ops Q (op :: rest) a w :=
 wpList_plain hgd fun _ hK => by
  unfold Oper.wp execOp
  simp only [ho, hx]
  rw [Sem.run_bind, run_loadAt_ent w ad x hc]
  exact hK _ _ h
theorem wpList_push_ents2 {W : World} {ops : Array Oper} {rest : List Oper} {o : Oper} {a : Act} {Q : Exit → Act → World → Prop} (hgd : o.guard = none) (s x : Operand)
  (ho : o.op = .call { callee := .builtin .append, args := #[s, x], argTypes := #[76, 76] })
  (base : Nat) (A : Option Addr) (c : Nat) (l : List Slt) (n : Nat) (hn : l.length = n) (hs : a.eval s = .slice A n c) (hown : OwnE W base A c l) (A2 : Option Addr) (c2 : Nat) (l2 : List Slt) (m : Nat) (hm : l2.length = m)
  (hx : a.eval x = .slice A2 m c2) (hr : Reads W W.heap.size 14 A2 m (l2.flatMap Slt.ent)) (hl : n + m ≤ 1000000) (hbase : base ≤ W.heap.size)
  (h : ∀ A' c' w', OwnE w' base A' c' (l ++ l2) → Pushed W w' A A' → wpList Tryz.prog ops Q rest (a.put o.dst (.slice A' (n + m) c')) w') : wpList Tryz.prog ops Q (o :: rest) a W := by
 subst hn hm
 obtain ⟨i0, hi0, hz0, hz1, hz2⟩ := info_parts info_ent
 refine wpList_append_sl _ hgd s x 76 ho base 101 i0 _ 14 112 Tryz.underlying76 hi0 hz0 hz1 hz2 rfl (by decide) (.slice A l.length c) l.length (l.flatMap Slt.ent) hs hown W.heap.size A2 l2.length c2 (l2.flatMap Slt.ent) hx hr (fun u hu => by
  obtain ⟨y, -, hy⟩ := List.mem_flatMap.1 hu
  unfold Slt.ent at hy
  simp at hy
  rcases hy with rfl | rfl | rfl | rfl | rfl | rfl | rfl | rfl | rfl | rfl | rfl | rfl | rfl | rfl <;> rfl) (by unfold maxLen; omega) (by omega) hbase ?_
 intro A' c' w' hown' hg' hat
 have hA : ∀ k, (Value.slice A l.length c).ownBlock = some k ↔ InB A k := hown.own_block
 have hO : OwnE w' base A' c' (l ++ l2) := by
  unfold OwnE OwnA
  rw [List.length_append, List.flatMap_append]
  exact hown'
 refine h A' c' w' hO ⟨?_, ?_⟩
 · exact (Chg.refl _ W).grown hg' (fun k hk _ => (hA k).1 hk)
 ·
  intro b hb
  have e1 : (Value.slice A' (l.length + l2.length) c').ownBlock = some b := by
   have := (hO.own_block b).2 hb
   simpa [Value.ownBlock] using this
  rcases hat with h2 | h2
  ·
   rw [h2] at e1
   exact .inl ((hA b).1 e1)
  ·
   rw [h2] at e1
   simp at e1
   exact .inr (by omega)
structure DTs where
 now : Int
 M : LM
 L : List Int
 LL : List Slt
 gen : Nat → Int
 lk : Int
section
variable {w w' : World} {g n : Nat} {b : Int} {c : TCfg} {d : DTs} {X F : Nat → Prop}
end
section
variable {w w' : World} {g n : Nat} {b : Int} {c : TCfg} {d : DTs} {X F : Nat → Prop}
end
section
variable {w w' : World} {g n : Nat} {b : Int} {c : TCfg} {d : DTs} {X F : Nat → Prop}
end
section
variable {w w' w1 w2 : World} {g n : Nat} {b : Int} {c : TCfg} {d d' : DTs} {X F : Nat → Prop}
end
def goneD (n : Nat) (d : DTs) (i : Nat) : DTs := { d with M := lmDel d.M i, L := pushL n d.L i, LL := delL d.LL i, gen := fun k => if k = i then IntKind.u64.wrap (d.gen i + 1) else d.gen k }
section
variable {w w' w1 w2 : World} {g n : Nat} {b : Int} {c : TCfg} {d d' : DTs} {X X1 X2 F : Nat → Prop}
def XTo (w w1 : World) (X X1 : Nat → Prop) : Prop := Chg X w w1 ∧ ∀ y, X1 y → X y ∨ w.heap.size ≤ y
theorem XTo.trans (h : XTo w w1 X X1) (k : XTo w1 w2 X1 X2) : XTo w w2 X X2 := by
 have hz := h.1.size
 refine ⟨h.1.trans k.1 fun y hy hx => ?_, fun y hy => ?_⟩
 ·
  rcases h.2 y hx with h | h
  · exact h
  · omega
 ·
  rcases k.2 y hy with h' | h'
  · exact h.2 y h'
  · exact .inr (by omega)
theorem XTo.of (k : Chg X w w1) : XTo w w1 X X := ⟨k, fun _ h => .inl h⟩
theorem XTo.call (hb : Below w.heap.size w w1) : XTo w w1 X X := ⟨Chg.of_below hb, fun _ h => .inl h⟩
end
@[reducible] def dOf (n : Nat) (s : TSt) : DTs := ⟨s.now, s.M, s.L, liveE s.E n, fun k => (s.E k).gen, s.lk⟩
section
variable {w w' w1 w2 : World} {g n : Nat} {b : Int} {c : TCfg} {s : TSt} {X X1 X2 F : Nat → Prop}
end
section
variable {w w' w1 w2 : World} {g n : Nat} {b : Int} {c : TCfg} {s : TSt} {X X1 X2 F : Nat → Prop}
end
section
variable {w w' w1 w2 : World} {g n : Nat} {b : Int} {c : TCfg} {s : TSt} {X X1 X2 F : Nat → Prop}
end
section
variable {w w' w1 w2 : World} {g n : Nat} {b : Int} {c : TCfg} {s : TSt} {X X1 X2 F : Nat → Prop}
end
section
variable {w w' w1 w2 : World} {g n : Nat} {b : Int} {c : TCfg} {d : DTs} {s : TSt} {X X1 X2 F : Nat → Prop}
end
section
variable {w w' w1 w2 : World} {g n : Nat} {b : Int} {c : TCfg} {d : DTs} {s : TSt} {X X1 X2 F : Nat → Prop}
end
def s0T (n : Nat) : TSt := ⟨0, [], upto n 0, fun k => { slt0 with sl := k }, 0⟩
end Go.Proofs.YtohapcacckapoaaGreat
