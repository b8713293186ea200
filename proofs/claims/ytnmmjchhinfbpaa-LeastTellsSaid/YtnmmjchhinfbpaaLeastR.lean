/- least: the stable sort of backends by load. -/
import Derived.Test.YtnmmjchhinfbpaaLeastO
import Derived.Test.YtnmmjchhinfbpaaLeastM
import Derived.Test.YtnmmjchhinfbpaaShiftU
namespace Go.Proofs.Ytnmmjchhinfbpaa
open Go Go.RowKit Go.Deep

/-! A row of things of m cells, as the sorts' laws have it. -/
section
variable {α : Type} [Inhabited α] {cells : α → List Value} {m : Nat}
theorem own_holdsG (hm : ∀ a, (cells a).length = m) (h0 : 0 < m) {t : TypeId} {w : World} {base gp cap : Nat} {P : List α} (h : OwnA cells m t w base (some ⟨gp, 0, none⟩) cap P) : Sort.HoldsK cells m w gp 0 P.toArray := by
  intro i hi
  rw [Sort.size_flatK] at hi
  have hi' : i < P.length * m := by simpa using hi
  rw [Sort.get_flatK _ _ _ _ hi]
  have hk : i / m < P.length := (Nat.div_lt_iff_lt_mul h0).2 hi'
  have hx : P[i / m]? = some P[i / m] := List.getElem?_eq_getElem hk
  have f := h.cellAt i (by simpa using hi')
  have e : i = i / m * m + i % m := by rw [Nat.mul_comm]; exact (Nat.div_add_mod i m).symm
  have g := flat_at cells m hm P (i / m) (i % m) _ hx (Nat.mod_lt _ h0)
  rw [← e] at g
  rw [Nat.zero_add]
  refine ⟨?_, h.frozenAt i⟩
  rw [f, g]
  have ea : P.toArray[i / m]! = P[i / m] := by simp [hk]
  have hlt : i % m < (cells P[i / m]).length := by rw [hm]; exact Nat.mod_lt _ h0
  rw [ea, getElem!_pos (cells P[i / m]) (i % m) hlt, List.getElem?_eq_getElem hlt]
  rfl
theorem holds_readsG (hm : ∀ a, (cells a).length = m) (h0 : 0 < m) {w : World} {gp : Nat} {d : Array α} (h : Sort.HoldsK cells m w gp 0 d) (hb : gp < w.heap.size) : Reads w w.heap.size m (some ⟨gp, 0, none⟩) d.toList.length (d.toList.flatMap cells) := by
  have hl : (d.toList.flatMap cells).length = d.toList.length * m := by
    induction d.toList with
    | nil => simp
    | cons x r ih =>
      rw [List.flatMap_cons, List.length_append, ih, hm, List.length_cons, Nat.add_mul, Nat.one_mul]
      omega
  refine ⟨hl, fun _ => ⟨_, rfl, hb, fun j u hu => ?_⟩⟩
  have hj : j < d.size * m := by
    have := (List.getElem?_eq_some_iff.1 hu).1
    rw [hl] at this
    simpa using this
  have hk : j / m < d.size := (Nat.div_lt_iff_lt_mul h0).2 hj
  have hx : d.toList[j / m]? = some d[j / m] := by rw [List.getElem?_eq_getElem (by simpa using hk)]; rfl
  have g := flat_at cells m hm d.toList (j / m) (j % m) _ hx (Nat.mod_lt _ h0)
  have e : j / m * m + j % m = j := by rw [Nat.mul_comm]; exact Nat.div_add_mod j m
  rw [e, hu] at g
  have f := (h.cell hk (Nat.mod_lt j h0)).1
  rw [show 0 + j / m * m + j % m = j by rw [Nat.zero_add]; exact e] at f
  have ea : d[j / m]! = d[j / m] := by simp [hk]
  have hlt : j % m < (cells d[j / m]).length := by rw [hm]; exact Nat.mod_lt _ h0
  rw [ea, getElem!_pos (cells d[j / m]) (j % m) hlt] at f
  rw [List.getElem?_eq_getElem hlt] at g
  show w.cell? ((⟨gp, 0, none⟩ : Addr).add j) = _
  have eb : (⟨gp, 0, none⟩ : Addr).add j = ⟨gp, j, none⟩ := by
    simp [Addr.add]
    intro h
    omega
  rw [eb, f]
  exact g.symm
theorem sortW_chgG {w : World} {gp n : Nat} {d : Array α} {os : Array Obj} : Chg (· = gp) w (sortWorldK cells m w gp 0 n d os) := by
  refine ⟨rfl, rfl, rfl, size_sortWorldK_c _ _ _ _ _ _ _ _, fun b hb hF => ?_⟩
  unfold sortWorldK
  have hz : b < (Sort.putRowK cells m (Sort.ahead w n) gp 0 d).heap.size := by rw [Sort.size_putRowK]; exact hb
  rw [Sort.heap_grow_old _ _ hz]
  unfold Sort.putRowK Sort.putRow Sort.mapBlock
  show ((Sort.ahead w n).heap.modify gp _)[b]? = w.heap[b]?
  rw [Array.getElem?_modify, if_neg (fun e => hF e.symm)]
  rfl
end
/-- Backends that a load may be told of. -/
abbrev SB (M : LM) := {x : Bk // bkWf x ∧ bearB (lmGet M x.id) x.w = true}
abbrev sbC {M : LM} (x : SB M) : List Value := x.1.cells
def sbO {M : LM} (x y : SB M) : Int := ordI M x.1 y.1
theorem sb_lt {M : LM} (x y : SB M) : ltOf sbO x y = lessM M x.1 y.1 := by
  unfold ltOf sbO ordI lessM
  cases h : lessB (lmGet M x.1.id) x.1.w x.1.id (lmGet M y.1.id) y.1.w y.1.id
  · cases lessB (lmGet M y.1.id) y.1.w y.1.id (lmGet M x.1.id) x.1.w x.1.id <;> simp
  · simp
theorem lessB_nt {n k n2 k2 n3 k3 i i2 i3 : Int} (a : bearB n k = true) (b : bearB n2 k2 = true) (c : bearB n3 k3 = true) (h1 : lessB n k i n2 k2 i2 = false) (h2 : lessB n2 k2 i2 n3 k3 i3 = false) : lessB n k i n3 k3 i3 = false := by
  cases e : lessB n k i n3 k3 i3
  · rfl
  exfalso
  have i12 := lessB_iff (i := i) (i2 := i2) a b
  have i23 := lessB_iff (i := i2) (i2 := i3) b c
  rw [lessB_iff a c] at e
  have q1 : ¬ _ := fun h => by rw [i12.2 h] at h1; cases h1
  have q2 : ¬ _ := fun h => by rw [i23.2 h] at h2; cases h2
  obtain ⟨_, _, a3, _⟩ := bearB_t a
  obtain ⟨_, _, b3, _⟩ := bearB_t b
  obtain ⟨_, _, c3, _⟩ := bearB_t c
  have r1 : n * k2 * k3 = n * k3 * k2 := by rw [Int.mul_assoc, Int.mul_comm k2 k3, ← Int.mul_assoc]
  have r2 : n2 * k * k3 = n2 * k3 * k := by rw [Int.mul_assoc, Int.mul_comm k k3, ← Int.mul_assoc]
  have r3 : n3 * k2 * k = n3 * k * k2 := by rw [Int.mul_assoc, Int.mul_comm k2 k, ← Int.mul_assoc]
  have u1 : n2 * k ≤ n * k2 := by omega
  have u2 : n3 * k2 ≤ n2 * k3 := by omega
  have m1 : n2 * k * k3 ≤ n * k2 * k3 := Int.mul_le_mul_of_nonneg_right u1 (by omega)
  have m2 : n3 * k2 * k ≤ n2 * k3 * k := Int.mul_le_mul_of_nonneg_right u2 (by omega)
  have m3 : n3 * k * k2 ≤ n * k3 * k2 := by omega
  have m4 : n3 * k ≤ n * k3 := Int.le_of_mul_le_mul_right m3 (by omega)
  rcases e with e | ⟨e, j⟩
  · omega
  · have t1 : n3 * k * k2 = n * k3 * k2 := by rw [e]
    have t2 : n2 * k * k3 = n * k2 * k3 := by omega
    have t3 : n3 * k2 * k = n2 * k3 * k := by omega
    have s1 := Int.eq_of_mul_eq_mul_right (show k3 ≠ 0 by omega) t2
    have s2 := Int.eq_of_mul_eq_mul_right (show k ≠ 0 by omega) t3
    omega
theorem swoS (M : LM) : Sort.SWO (ltOf (sbO (M := M))) where
  irrefl x := by rw [sb_lt]; exact lessB_self _ _ _
  trans x y z h1 h2 := by rw [sb_lt] at *; exact lessB_tr x.2.2 y.2.2 z.2.2 h1 h2
  ntrans x y z h1 h2 := by rw [sb_lt] at *; exact lessB_nt x.2.2 y.2.2 z.2.2 h1 h2
theorem cmpLaysS {M : LM} [Inhabited (SB M)] (g b gc blk size : Nat) (w : World) (hc : w.cell? ⟨gc, 0, none⟩ = some (.pointer (some ⟨g, 0, none⟩))) (h : LoadAt w g b M) (n1 : blk ≠ g) (n2 : blk ≠ b) (n3 : blk ≠ gc) :
    CmpLays Try.prog 82 #[.pointer (some ⟨gc, 0, none⟩)] (sbC (M := M)) 6 sbO blk 0 size w := by
  intro m os dk hdk x y
  have k := sortW_chgG (cells := sbC (M := M)) (m := 6) (w := w) (gp := blk) (n := m) (d := dk) (os := os)
  have h2 : LoadAt (sortWorldK (sbC (M := M)) 6 w blk 0 m dk os) g b M := ⟨h.1.chg k (fun e => n1 e.symm), h.2.chg k (fun e => n2 e.symm)⟩
  have hc2 : (sortWorldK (sbC (M := M)) 6 w blk 0 m dk os).cell? ⟨gc, 0, none⟩ = some (.pointer (some ⟨g, 0, none⟩)) := (cell_chg k (block_lt_of_cell hc) (fun e => n3 e.symm)).trans hc
  refine (order1_dr x.1 y.1 g b gc M _ hc2 h2 x.2.1 y.2.1).mono ?_
  rintro e w' ⟨rfl, hb, hd⟩
  exact ⟨rfl, gr_of hb hd⟩
end Go.Proofs.Ytnmmjchhinfbpaa
