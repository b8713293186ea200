/- least: a map from IDs to times; Burden; Quick. -/
import Derived.Test.YtnmmjchhinfbpaaLeastW
import Derived.Maps.Views
namespace Go.Proofs.Ytnmmjchhinfbpaa
open Go Go.RowKit Go.Deep Go.Maps Go.ChangeMaps

/-! A map from integers to numbers with points, told key by key. -/
def fE (v : Value) : Option (DataW Unit × List MemPlace) := match v with | .float .f64 b => some (.lit (.float .f64 b), []) | _ => none
theorem fE_inv {v : Value} {z : DataW Unit × List MemPlace} (h : fE v = some z) : ∃ b, v = .float .f64 b ∧ z = (.lit (.float .f64 b), []) := by
  unfold fE at h
  split at h
  · cases h; exact ⟨_, rfl, rfl⟩
  · cases h
def Fmap (w : World) (bm : Nat) (n : Nat) (f : Int → Nat) : Prop := ∃ D, w.ownsMap Try.prog 3 fE bm n D ∧ IsMap D ∧ ∀ id : Int, D.atKey (ilit id) (.lit (.float .f64 0)) = .lit (.float .f64 (f id))
theorem float_zero (w : World) : (zeroValue 55).run Try.prog w = .ok (.float .f64 0) w := by kernel_rfl
theorem Fmap.look {w : World} {bm n : Nat} {f : Int → Nat} (h : Fmap w bm n f) {id : Int} (hk : (Lit.int .i64 id).wf = true) :
    (Instr.lookup 61 (.map (some bm)) (.int .i64 id) false).run Try.prog w = .ok (.float .f64 (f id)) w := by
  obtain ⟨D, hD, _, hf⟩ := h
  obtain ⟨v, ps, hrun, hv⟩ := World.ownsMap.lookup hD int_law Try.underlying61 (float_zero w) (zd := .lit (.float .f64 0)) (zp := []) rfl (int_key hk)
  obtain ⟨b, rfl, hb⟩ := fE_inv hv
  rw [hf] at hb
  simp only [Prod.mk.injEq] at hb
  rw [hrun]
  have := hb.1
  cases this
  rfl
theorem Fmap.call {w w1 : World} {bm n : Nat} {f : Int → Nat} (h : Fmap w bm n f) (hb : Below w.heap.size w w1) : Fmap w1 bm n f := by
  obtain ⟨D, hD, r⟩ := h
  have hlt := World.ownsMap.lt hD
  obtain ⟨es, clock, h1, r1⟩ := hD
  exact ⟨D, ⟨es, clock, (hb.block bm hlt).trans h1, r1⟩, r⟩
theorem Fmap.lt {w : World} {bm n : Nat} {f : Int → Nat} (h : Fmap w bm n f) : bm < w.heap.size := by
  obtain ⟨D, hD, _⟩ := h
  exact World.ownsMap.lt hD
theorem Fmap.made (w : World) : Fmap (w.alloc (.map #[] 0)) w.heap.size 0 (fun _ => 0) := ⟨_, World.ownsMap_made w _ _ _, isMap_empty, fun _ => rfl⟩
theorem wpList_insert_f {w : World} {ops : Array Oper} {rest : List Oper} {o : Oper} {a : Act} {Q : Exit → Act → World → Prop}
    (hg : o.guard = none) (m x v : Operand) (hop : o.op = Op.insert 61 m x v ∨ o.op = Op.mapUpdate 61 m x v) (bm n : Nat) (f : Int → Nat) (id : Int) (b : Nat)
    (hm : a.eval m = .map (some bm)) (h : Fmap w bm n f) (hn : n < 100000) (hx : a.eval x = .int .i64 id) (hv : a.eval v = .float .f64 b) (hk : (Lit.int .i64 id).wf = true)
    (hK : ∀ w', Fmap w' bm (n + 1) (fun j => if j = id then b else f j) → Chg (· = bm) w w' → wpList Try.prog ops Q rest (a.put o.dst undef) w') :
    wpList Try.prog ops Q (o :: rest) a w := by
  refine wpList_plain hg fun K' hK' => ?_
  obtain ⟨D, hD, hI, hf⟩ := h
  obtain ⟨w', hrun, r1, r2⟩ := hD.update int_law Try.underlying61 (by unfold maxLen; omega) (int_key hk) (show fE (.float .f64 b) = some (.lit (.float .f64 b), []) from rfl)
  unfold Oper.wp
  have hF : Fmap w' bm (n + 1) (fun j => if j = id then b else f j) := by
    refine ⟨_, r1, hI.put _ _, fun j => ?_⟩
    dsimp only
    by_cases e : j = id
    · subst e
      rw [if_pos rfl]
      exact atKey_put_same hI (by trivial) _ _
    · rw [if_neg e, atKey_put_other (by intro h; simp [ilit] at h; exact e h)]
      exact hf j
  have hc : Chg (· = bm) w w' := (Chg.refl _ w).grown r2 (fun k hk _ => by simpa using hk.symm)
  rcases hop with hop | hop
  all_goals
    simp [execOp, hop, hm, hx, hv, hrun, Result.andThen]
    exact hK' _ _ (hK w' hF hc)
end Go.Proofs.Ytnmmjchhinfbpaa
