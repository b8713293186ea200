/- swrr: Pick. -/
import Derived.Test.YtkpkjpdhlmjchaaSwD
namespace Go.Proofs.Ytkpkjpdhlmjchaa
open Go Go.RowKit Go.Deep

def swT (s : Bool) (v0 ver wt0 : Int) (ts0 : List Trn) (l : List Bk) : Int × List Trn := if s = true ∧ v0 = ver then (wt0, ts0) else (sumW l, zeroT l)
theorem own_mono {w : World} {base base' m n : Nat} {e : TypeId} {v : Value} {xs : List Value} (h : w.ownsRow base e m v n xs) (hb : base' ≤ base) : w.ownsRow base' e m v n xs := by
  refine ⟨h.1, ?_⟩
  rcases h.2 with h0 | ⟨g, cap, cur, h1, h2, h3⟩
  · exact .inl h0
  · exact .inr ⟨g, cap, cur, h1, by omega, h3⟩
theorem TurnAt.mono {w : World} {base base' g : Nat} {s : Bool} {ver wt : Int} {ts : List Trn} (h : TurnAt w base g s ver wt ts) (hb : base' ≤ base) : TurnAt w base' g s ver wt ts := by
  obtain ⟨P, p, h1, h2⟩ := h
  exact ⟨P, p, h1, own_mono h2 hb⟩
theorem own_tb {w : World} {base : Nat} {P : Option Addr} {p : Nat} {ts : List Trn} (h : OwnT w base P p ts) {b : Nat} (hb : InB P b) : TB w b := by
  obtain ⟨a, rfl, rfl⟩ := hb
  rcases h.2 with ⟨h1, _⟩ | ⟨g, cap, cur, h1, hg, hh, _⟩
  · simp at h1
  · simp only [Value.slice.injEq, Option.some.injEq] at h1
    obtain ⟨rfl, -⟩ := h1
    exact ⟨cur, .inr hh⟩
/-- What the numbers of a turner may be. -/
def TrnOk (wt : Int) (ts : List Trn) (B : Int) : Prop := ts.length ≤ 1000 ∧ (∀ x ∈ ts, -B ≤ x.2 ∧ x.2 ≤ B ∧ 0 ≤ x.1.w ∧ x.1.w ≤ 1000) ∧ 0 ≤ wt ∧ wt ≤ 1000000
theorem trnOk_new (l : List Bk) (hl : l.length ≤ 1000) (hw : ∀ b ∈ l, 0 ≤ b.w ∧ b.w ≤ 1000) (B : Int) (hB : 0 ≤ B) : TrnOk (sumW l) (zeroT l) B := by
  have h := sumW_bd l hw l.length (Nat.le_refl _)
  rw [List.take_length] at h
  refine ⟨by unfold zeroT; rw [List.length_map]; exact hl, fun x hx => ?_, h.1, by omega⟩
  obtain ⟨b, hb, rfl⟩ := List.mem_map.1 hx
  have := hw b hb
  exact ⟨by dsimp only; omega, hB, this.1, this.2⟩
theorem swT_ok {s : Bool} {v0 ver wt0 : Int} {ts0 : List Trn} {l : List Bk} {B : Int} (h : TrnOk wt0 ts0 B) (hl : l.length ≤ 1000) (hw : ∀ b ∈ l, 0 ≤ b.w ∧ b.w ≤ 1000) (hB : 0 ≤ B) : TrnOk (swT s v0 ver wt0 ts0 l).1 (swT s v0 ver wt0 ts0 l).2 B := by
  unfold swT
  split
  · exact h
  · exact trnOk_new l hl hw B hB
theorem swrr_pick (base g : Nat) (s : Bool) (v0 wt0 : Int) (ts0 : List Trn) (ver : Int) (l : List Bk) (A : Option Addr) (c : Nat) (B : Int) (w : World) (h : TurnAt w base g s v0 wt0 ts0) (hbase : base ≤ w.heap.size) (hok : TrnOk wt0 ts0 B) (hB : 0 ≤ B) (hB2 : B ≤ 1000000000000)
    (hr : Reads w w.heap.size 6 A l.length (l.flatMap Bk.cells)) (hag : ∀ a, A = some a → ¬ a.block = g) (hl : l.length ≤ 1000) (hw : ∀ b ∈ l, 0 ≤ b.w ∧ b.w ≤ 1000) :
    Calls Try.prog 89 #[.pointer (some ⟨g, 0, none⟩), .agg #[.int .i64 ver, .slice A l.length c]] w fun e w' => e = .returned (.tuple #[.int .i64 (pickId (swT s v0 ver wt0 ts0 l).2), .bool (decide (0 < (swT s v0 ver wt0 ts0 l).2.length))]) ∧
      TurnAt w' base g true ver (swT s v0 ver wt0 ts0 l).1 (pickTs (swT s v0 ver wt0 ts0 l).1 (swT s v0 ver wt0 ts0 l).2) ∧ Chg (TB w) w w' := by
  have hT := swT_ok (s := s) (v0 := v0) (ver := ver) hok hl hw hB
  obtain ⟨P0, p0, hX, hO⟩ := id h
  have hg : TB w g := ⟨_, .inl hX⟩
  refine swrr_pick_core base g s v0 wt0 _ ver _ _ l A c (TB w) w hX ?_ hT.1 (fun x hx => by have := hT.2.1 x hx; omega) hT.2.2
  intro W hb
  by_cases hc : s = true ∧ v0 = ver
  · have e : swT s v0 ver wt0 ts0 l = (wt0, ts0) := by unfold swT; rw [if_pos hc]
    rw [e]
    obtain ⟨rfl, rfl⟩ := hc
    refine (swrr_set_same base g v0 wt0 ts0 l A c W (h.call hb)).mono ?_
    rintro e w' ⟨rfl, hb2⟩
    refine ⟨rfl, ⟨P0, p0, (hX.call hb).call hb2, (hO.call hb).call hb2, fun b hi _ => own_tb hO hi⟩, Chg.of_below (below_chain hb2 hb)⟩
  · have e : swT s v0 ver wt0 ts0 l = (sumW l, zeroT l) := by unfold swT; rw [if_neg hc]
    rw [e]
    refine (swrr_set_new base g s v0 wt0 ts0 ver l A c W (h.call hb) hc ((hr.below hb).more hb.size) hag hl hw).mono ?_
    rintro e w' ⟨rfl, ⟨P, p, hX2, hO2⟩, hc2⟩
    have hsz := hb.size
    refine ⟨rfl, ⟨P, p, hX2, own_mono hO2 (by omega), fun b hi hlt => ?_⟩, ?_⟩
    · have := (hO2.block hi).1
      omega
    · exact (Chg.of_below hb).trans hc2 (fun b _ hb => by show TB w b; exact hb ▸ hg)
end Go.Proofs.Ytkpkjpdhlmjchaa
