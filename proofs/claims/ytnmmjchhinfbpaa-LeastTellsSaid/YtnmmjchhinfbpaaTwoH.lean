/- two: what the laws keep of the loads; the check of an example. -/
import Derived.Test.YtnmmjchhinfbpaaTwoG
import Derived.Test.YtnmmjchhinfbpaaOpenZ
namespace Go.Proofs.Ytnmmjchhinfbpaa
open Go Go.RowKit Go.Deep Go.ChangeShapes Go.WideShapes

theorem imap_cell {w : World} {b : Nat} {M : LM} (h : Imap w b M) {a : Addr} {v : Value} (ha : w.cell? a = some v) : a.block ≠ b := by
  rintro rfl
  obtain ⟨es, clock, h2, _⟩ := h
  simp [World.cell?, h2] at ha
theorem Reads.chg_map {w w1 : World} {b n m : Nat} {M : LM} {A : Option Addr} {xs : List Value} (h : Reads w w.heap.size m A n xs) (hm : Imap w b M) (hm0 : 0 < m) (k : Chg (· = b) w w1) : Reads w1 w1.heap.size m A n xs := by
  refine ⟨h.1, fun hn => ?_⟩
  obtain ⟨ad, rfl, hb, hc⟩ := h.2 hn
  have hx : 0 < xs.length := by rw [h.1]; exact Nat.mul_pos hn hm0
  have h0 := hc 0 _ (List.getElem?_eq_getElem hx)
  have hne : ad.block ≠ b := by have := imap_cell hm h0; rwa [block_of_add] at this
  refine ⟨ad, rfl, Nat.lt_of_lt_of_le hb k.size, fun j u hu => ?_⟩
  rw [World.cell?_of_block (w := w) (a := ad.add j) (by rw [block_of_add]; exact k.block hb hne)]
  exact hc j u hu
theorem RLoadAt.chg_map {w w1 : World} {g b : Nat} {M M' : LM} (h : RLoadAt w g M) (hm : Imap w b M') (k : Chg (· = b) w w1) : RLoadAt w1 g M := by
  obtain ⟨A, c, B, d, h1, h2, h3⟩ := h
  refine ⟨A, c, B, d, h1.chg k ?_, h2.chg_map hm (by omega) k, h3.chg_map hm (by omega) k⟩
  intro e
  subst e
  obtain ⟨es, clock, hh, _⟩ := hm
  unfold Blk at h1
  rw [h1] at hh
  cases hh
theorem LoadAt.chg_ref {w w1 : World} {g g2 b : Nat} {M M' : LM} (h : LoadAt w g b M) (hr : RLoadAt w g2 M') (k : Chg (· = g2) w w1) : LoadAt w1 g b M := by
  obtain ⟨A, c, B, d, h1, _, _⟩ := hr
  refine ⟨h.1.chg k ?_, h.2.chg k ?_⟩
  · exact Blk.ne_ h.1 h1 (by decide)
  · rintro rfl
    obtain ⟨es, clock, hh, _⟩ := h.2
    unfold Blk at h1
    rw [h1] at hh
    cases hh

structure Stp where
  kind : Int
  id : Int
  n : Int
abbrev Stp.cells (s : Stp) : List Value := [.int .i64 s.kind, .int .i64 s.id, .int .i64 s.n]
def stpWf (s : Stp) : Prop := (Lit.int .i64 s.id).wf = true
theorem stp_at {w : World} {B : Nat} {A : Option Addr} {l : List Stp} (h : Reads w B 3 A l.length (l.flatMap Stp.cells)) {k : Nat} (hk : k < l.length) :
    ∃ ad s, A = some ad ∧ ad.block < B ∧ l[k]? = some s ∧ w.cell? (ad.add (k * 3)) = some (.int .i64 s.kind) ∧ w.cell? ⟨(ad.add (k * 3)).block, (ad.add (k * 3)).off + 1, none⟩ = some (.int .i64 s.id) ∧ w.cell? ⟨(ad.add (k * 3)).block, (ad.add (k * 3)).off + 2, none⟩ = some (.int .i64 s.n) := by
  obtain ⟨ad, rfl, hb, hc⟩ := h.rec_at Stp.cells (fun _ => rfl) hk
  exact ⟨ad, l[k], rfl, hb, List.getElem?_eq_getElem hk, hc 0 _ rfl, hc 1 _ rfl, hc 2 _ rfl⟩
def lmRun (l : List Stp) : LM := l.foldl (fun M s => lmAdd M s.id s.n) []
theorem lmRun_succ (l : List Stp) (k : Nat) (s : Stp) (h : l[k]? = some s) : lmRun (l.take (k + 1)) = lmAdd (lmRun (l.take k)) s.id s.n := by
  obtain ⟨hk, rfl⟩ := List.getElem?_eq_some_iff.1 h
  unfold lmRun
  rw [List.take_succ_eq_append_getElem hk, List.foldl_append]
  rfl
theorem lmRun_facts (l : List Stp) : lmPos (lmRun l) ∧ lmSorted (lmRun l) ∧ (lmRun l).length ≤ l.length := by
  unfold lmRun
  have key : ∀ (l : List Stp) (M : LM), lmPos M → lmSorted M → lmPos (l.foldl (fun M s => lmAdd M s.id s.n) M) ∧ lmSorted (l.foldl (fun M s => lmAdd M s.id s.n) M) ∧ (l.foldl (fun M s => lmAdd M s.id s.n) M).length ≤ M.length + l.length := by
    intro l
    induction l with
    | nil => intro M h1 h2; exact ⟨h1, h2, by simp⟩
    | cons s l ih =>
      intro M h1 h2
      obtain ⟨a, b, c⟩ := ih (lmAdd M s.id s.n) (lmAdd_pos h1 _ _) (lmAdd_sorted h2 _ _)
      have := lmAdd_length M s.id s.n
      exact ⟨a, b, by simp only [List.foldl_cons, List.length_cons]; omega⟩
  have := key l [] (fun x hx => by simp at hx) (by simp [lmSorted])
  exact ⟨this.1, this.2.1, by simpa using this.2.2⟩
theorem bkLaw_wf {m : Nat} {l : List Bk} (h : bkLaw m l) : ∀ x ∈ l, bkWf x := by
  intro x hx
  obtain ⟨j, hj, rfl⟩ := List.getElem_of_mem hx
  have := h.2.1.2 j _ (List.getElem?_eq_getElem hj)
  unfold bkWf
  exact wf_i64_mk (by omega) (by omega)

end Go.Proofs.Ytnmmjchhinfbpaa
