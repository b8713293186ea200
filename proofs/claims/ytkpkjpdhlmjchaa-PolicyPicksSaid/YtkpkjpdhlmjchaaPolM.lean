/- policy: a chooser, the document's chooser and both loads in one world. policy: a step of the code's chooser. policy: a step of the document's chooser. policy: what stays true of what a chooser knows; a pick is of the set. policy: a round of PolicyPicks, of either chooser. -/
import Derived.Test.YtkpkjpdhlmjchaaPolI
import Derived.Test.YtkpkjpdhlmjchaaPolL
import Derived.Test.YtkpkjpdhlmjchaaPolK
import Derived.Test.YtkpkjpdhlmjchaaRefSx
import Derived.Test.YtkpkjpdhlmjchaaOpenP
import Derived.Test.YtkpkjpdhlmjchaaEligB
namespace Go.Proofs.Ytkpkjpdhlmjchaa
open Go Go.RowKit Go.Deep

/-- What a chooser knows. -/
structure PS where
  k : Int
  s : Int
  so : Bool
  v0 : Int
  wt : Int
  ts : List Trn
  ho : Bool
  hv : Int
  T : List Int
def CodeSt (w : World) (base g gN : Nat) (ka kb : Int) (σ : PS) : Prop := ∃ gt tp, base ≤ gt ∧ base ≤ g ∧ ChBlk w g σ.k σ.s ka kb (.pointer (some ⟨gt, 0, none⟩)) tp σ.ho σ.hv ∧ TurnAt w base gt σ.so σ.v0 σ.wt σ.ts ∧
  (σ.ho = true → ∃ gT gp, gp ≠ gN ∧ tp = .pointer (some ⟨gT, 0, none⟩) ∧ Blk w gT 167 #[.int .u64 ka, .int .u64 kb, .slice (some ⟨gp, 0, none⟩) σ.T.length σ.T.length] ∧ PlAt w gp σ.T.length σ.T)
def DocSt (w : World) (base g gN : Nat) (ka kb : Int) (σ : PS) : Prop := ∃ L N P, base ≤ g ∧ RChBlk w g σ.k σ.s ka kb σ.so σ.v0 L N σ.ho σ.hv P ∧
  (σ.so = true → ∃ A c l, σ.ts.map (·.1) = l ∧ L = .slice A l.length c ∧ N = .slice (some ⟨gN, 0, none⟩) l.length l.length ∧ Reads w base 6 A l.length (l.flatMap Bk.cells) ∧ PlAt w gN l.length (nums σ.ts)) ∧
  (σ.ho = true → ∃ gp, gp ≠ gN ∧ P = .slice (some ⟨gp, 0, none⟩) σ.T.length σ.T.length ∧ PlAt w gp σ.T.length σ.T)
def RLoadN (w : World) (gm gN : Nat) (M : LM) : Prop := ∃ P p Q q, Blk w gm 98 #[.slice P M.length p, .slice Q M.length q] ∧ Two w 0 P p (pre2 M) Q q (post2 M) ∧ ¬ InB P gN ∧ ¬ InB Q gN
theorem RLoadN.at_ {w : World} {g gN : Nat} {M : LM} (h : RLoadN w g gN M) : RLoadAt w g M := by
  obtain ⟨P, p, Q, q, h1, h2, -⟩ := h
  exact ⟨P, p, Q, q, h1, h2.fst.ints, h2.snd.ints⟩
theorem plat_blk {w : World} {g m : Nat} {pl : List Int} (h : PlAt w g m pl) : ∃ cs, Blk w g 3 cs := by
  obtain ⟨c, hc, -⟩ := h
  exact ⟨c, hc⟩
/-! What a frame may leave alone. -/
def Av (w : World) (F : Nat → Prop) (t : TypeId) : Prop := ∀ b cs, Blk w b t cs → ¬ F b
def AvI (w : World) (F : Nat → Prop) (gN : Nat) : Prop := ∀ b cs, Blk w b 3 cs → b ≠ gN → ¬ F b
def AvM (w : World) (F : Nat → Prop) : Prop := ∀ b M, Imap w b M → ¬ F b
section
variable {w w' : World} {F : Nat → Prop} {base g gN : Nat} {ka kb : Int} {σ : PS} {M : LM}
theorem own_blk {A : Option Addr} {c : Nat} {l : List Int} (h : OwnI w base A c l) {b : Nat} (hb : InB A b) : ∃ cs, Blk w b 3 cs := by
  obtain ⟨a, rfl, rfl⟩ := hb
  rcases h.2 with ⟨h1, _⟩ | ⟨g, cap, cur, h1, hg, hh, _⟩
  · simp at h1
  · simp only [Value.slice.injEq, Option.some.injEq] at h1
    obtain ⟨rfl, -⟩ := h1
    exact ⟨cur, hh⟩
theorem CodeSt.chg (h : CodeSt w base g gN ka kb σ) (k : Chg F w w') (a1 : Av w F 149) (a2 : Av w F 184) (a3 : Av w F 187) (a4 : Av w F 167) (a5 : AvI w F gN) : CodeSt w' base g gN ka kb σ := by
  obtain ⟨gt, tp, h1, h2, h3, ⟨A, c, t1, t2⟩, h5⟩ := h
  refine ⟨gt, tp, h1, h2, h3.chg k (a1 _ _ h3), ⟨A, c, t1.chg k (a2 _ _ t1), t2.chg k fun b hb => ?_⟩, fun ho => ?_⟩
  · obtain ⟨a, rfl, rfl⟩ := hb
    rcases t2.2 with ⟨k1, _⟩ | ⟨g, cap, cur, k1, hg, hh, _⟩
    · simp at k1
    · simp only [Value.slice.injEq, Option.some.injEq] at k1
      obtain ⟨rfl, -⟩ := k1
      exact a3 _ _ hh
  · obtain ⟨gT, gp, p1, p2, p3, p4⟩ := h5 ho
    obtain ⟨cs, hcs⟩ := plat_blk p4
    exact ⟨gT, gp, p1, p2, p3.chg k (a4 _ _ p3), rowIs_chg p4 k (a5 _ _ hcs p1)⟩
theorem CodeSt.call (h : CodeSt w base g gN ka kb σ) (hb : Below w.heap.size w w') : CodeSt w' base g gN ka kb σ :=
  h.chg (F := fun _ => False) (Chg.of_below hb) (fun _ _ _ h => h) (fun _ _ _ h => h) (fun _ _ _ h => h) (fun _ _ _ h => h) (fun _ _ _ _ h => h)
theorem DocSt.chg (h : DocSt w base g gN ka kb σ) (k : Chg F w w') (hB : base ≤ w.heap.size) (a0 : ∀ b, b < base → ¬ F b) (a1 : Av w F 108) (a5 : Av w F 3) : DocSt w' base g gN ka kb σ := by
  obtain ⟨L, N, P, h1, h2, h3, h4⟩ := h
  refine ⟨L, N, P, h1, h2.chg k (a1 _ _ h2), fun ho => ?_, fun ho => ?_⟩
  · obtain ⟨A, c, l, p0, p1, p2, p3, p5⟩ := h3 ho
    obtain ⟨cs, hcs⟩ := plat_blk p5
    exact ⟨A, c, l, p0, p1, p2, p3.below (k.below a0 hB), rowIs_chg p5 k (a5 _ _ hcs)⟩
  · obtain ⟨gp, p1, p3, p4⟩ := h4 ho
    obtain ⟨cs, hcs⟩ := plat_blk p4
    exact ⟨gp, p1, p3, rowIs_chg p4 k (a5 _ _ hcs)⟩
theorem DocSt.call (h : DocSt w base g gN ka kb σ) (hB : base ≤ w.heap.size) (hb : Below w.heap.size w w') : DocSt w' base g gN ka kb σ :=
  h.chg (F := fun _ => False) (Chg.of_below hb) hB (fun _ _ h => h) (fun _ _ _ h => h) (fun _ _ _ h => h)
theorem RLoadN.chg (h : RLoadN w g gN M) (k : Chg F w w') (a1 : Av w F 98) (a5 : AvI w F gN) : RLoadN w' g gN M := by
  obtain ⟨P, p, Q, q, h1, h2, h3, h4⟩ := h
  refine ⟨P, p, Q, q, h1.chg k (a1 _ _ h1), ⟨h2.fst.chg k fun b hb => ?_, h2.snd.chg k fun b hb => ?_, h2.apart⟩, h3, h4⟩
  · obtain ⟨cs, hcs⟩ := own_blk h2.fst hb
    exact a5 _ _ hcs (by rintro rfl; exact h3 hb)
  · obtain ⟨cs, hcs⟩ := own_blk h2.snd hb
    exact a5 _ _ hcs (by rintro rfl; exact h4 hb)
theorem RLoadN.call (h : RLoadN w g gN M) (hb : Below w.heap.size w w') : RLoadN w' g gN M :=
  h.chg (F := fun _ => False) (Chg.of_below hb) (fun _ _ _ h => h) (fun _ _ _ _ h => h)
theorem LoadAt.chg_av {b : Nat} (h : LoadAt w g b M) (k : Chg F w w') (a1 : Av w F 140) (a2 : AvM w F) : LoadAt w' g b M := ⟨h.1.chg k (a1 _ _ h.1), h.2.chg k (a2 _ _ h.2)⟩
/-! A new block for the numbers. -/
theorem CodeSt.renew {gN' : Nat} (h : CodeSt w base g gN ka kb σ) (hn : w.heap.size ≤ gN') : CodeSt w base g gN' ka kb σ := by
  obtain ⟨gt, tp, h1, h2, h3, h4, h5⟩ := h
  refine ⟨gt, tp, h1, h2, h3, h4, fun ho => ?_⟩
  obtain ⟨gT, gp, p1, p2, p3, p4⟩ := h5 ho
  exact ⟨gT, gp, by have := p4.lt; omega, p2, p3, p4⟩
theorem RLoadN.renew {gN' : Nat} (h : RLoadN w g gN M) (hn : w.heap.size ≤ gN') : RLoadN w g gN' M := by
  obtain ⟨P, p, Q, q, h1, h2, h3, h4⟩ := h
  exact ⟨P, p, Q, q, h1, h2, fun hb => by have := (h2.fst.block hb).2; omega, fun hb => by have := (h2.snd.block hb).2; omega⟩
end
/-- A law's own copy of a pick stays. -/
def Kp (w w' : World) : Prop := ∀ g cs, Blk w g 100 cs → Blk w' g 100 cs
structure Bel (base : Nat) (w w' : World) : Prop where
  be : Below base w w'
  kp : Kp w w'
theorem Bel.trans {base : Nat} {w w1 w2 : World} (h : Bel base w w1) (k : Bel base w1 w2) : Bel base w w2 := ⟨h.be.trans k.be, fun g cs hb => k.kp g cs (h.kp g cs hb)⟩
theorem Bel.of {base : Nat} {w w1 : World} (h : Below w.heap.size w w1) (hB : base ≤ w.heap.size) : Bel base w w1 := ⟨h.mono hB, fun _ _ hb => Blk.call hb h⟩
/-- Both, and the loads. -/
structure PSt (w : World) (base gc gx gl bl gm gN : Nat) (ka kb : Int) (σ τ : PS) (M : LM) : Prop where
  cd : CodeSt w base gc gN ka kb σ
  dc : DocSt w base gx gN ka kb τ
  la : LoadAt w gl bl M
  rl : RLoadN w gm gN M
  hN : base ≤ gN ∧ gN < w.heap.size
  hb : base ≤ bl ∧ base ≤ gm ∧ base ≤ w.heap.size
section
variable {w w' : World} {base gc gx gl bl gm gN : Nat} {ka kb : Int} {σ τ : PS} {M : LM}
theorem PSt.call (h : PSt w base gc gx gl bl gm gN ka kb σ τ M) (hb : Below w.heap.size w w') : PSt w' base gc gx gl bl gm gN ka kb σ τ M :=
  ⟨h.cd.call hb, h.dc.call h.hb.2.2 hb, h.la.call hb, h.rl.call hb, ⟨h.hN.1, Nat.lt_of_lt_of_le h.hN.2 hb.size⟩, ⟨h.hb.1, h.hb.2.1, Nat.le_trans h.hb.2.2 hb.size⟩⟩
theorem av_cb (h : CodeSt w base gc gN ka kb σ) {t : TypeId} (h1 : t ≠ 184) (h2 : t ≠ 187) (h3 : t ≠ 149) : Av w (CB w base gc) t := by
  obtain ⟨gt, tp, -, -, hC, -⟩ := h
  exact fun b cs hb => cb_far hb hC h1 h2 h3
theorem imap_ne {b b' : Nat} {t : TypeId} {cs : Array Value} (h : Imap w b M) (hB : Blk w b' t cs) : b ≠ b' := by
  rintro rfl
  obtain ⟨es, clock, hh, _⟩ := h
  unfold Blk at hB
  rw [hB] at hh
  cases hh
theorem avm_cb (h : CodeSt w base gc gN ka kb σ) : AvM w (CB w base gc) := by
  obtain ⟨gt, tp, -, -, hC, -⟩ := h
  rintro b M hM (⟨⟨cs, k | k⟩, -⟩ | k)
  · exact imap_ne hM k rfl
  · exact imap_ne hM k rfl
  · exact imap_ne hM hC k
theorem cb_base (h : CodeSt w base gc gN ka kb σ) : ∀ b, b < base → ¬ CB w base gc b := by
  obtain ⟨gt, tp, -, h2, -⟩ := h
  rintro b hb (⟨-, k⟩ | rfl) <;> omega
/-- What the code's chooser may change. -/
theorem PSt.code {σ' : PS} (h : PSt w base gc gx gl bl gm gN ka kb σ τ M) (k : Chg (CB w base gc) w w') (h' : CodeSt w' base gc gN ka kb σ') : PSt w' base gc gx gl bl gm gN ka kb σ' τ M ∧ Bel base w w' := by
  have av : ∀ {t : TypeId}, t ≠ 184 → t ≠ 187 → t ≠ 149 → Av w (CB w base gc) t := fun a b c => av_cb h.cd a b c
  refine ⟨⟨h', h.dc.chg k h.hb.2.2 (cb_base h.cd) (av (by decide) (by decide) (by decide)) (av (by decide) (by decide) (by decide)), h.la.chg_av k (av (by decide) (by decide) (by decide)) (avm_cb h.cd),
    h.rl.chg k (av (by decide) (by decide) (by decide)) (fun b cs hb _ => av (t := 3) (by decide) (by decide) (by decide) b cs hb), ⟨h.hN.1, Nat.lt_of_lt_of_le h.hN.2 k.size⟩, ⟨h.hb.1, h.hb.2.1, Nat.le_trans h.hb.2.2 k.size⟩⟩, ⟨k.below (cb_base h.cd) h.hb.2.2, fun g cs hb => hb.chg k (av (by decide) (by decide) (by decide) _ _ hb)⟩⟩
/-- What the document's chooser may change, its numbers standing where they stood. -/
theorem PSt.doc {τ' : PS} (h : PSt w base gc gx gl bl gm gN ka kb σ τ M) {F : Nat → Prop} (k : Chg F w w') (hF : ∀ b, F b → b = gx ∨ b = gN ∧ ∃ cs, Blk w gN 3 cs) (h' : DocSt w' base gx gN ka kb τ') : PSt w' base gc gx gl bl gm gN ka kb σ τ' M ∧ Bel base w w' := by
  obtain ⟨L, N, P, hg, hX, -⟩ := h.dc
  have av : ∀ {t : TypeId}, t ≠ 108 → t ≠ 3 → Av w F t := fun a b g cs hb hf => by
    rcases hF g hf with e | ⟨e, cs', hc⟩
    · exact Blk.ne_ hb hX a e
    · exact Blk.ne_ hb hc b e
  have avi : AvI w F gN := fun b cs hb hn hf => by
    rcases hF b hf with e | ⟨e, -⟩
    · exact Blk.ne_ hb hX (by decide) e
    · exact hn e
  have avm : AvM w F := fun b M hM hf => by
    rcases hF b hf with e | ⟨e, cs', hc⟩
    · exact imap_ne hM hX e
    · exact imap_ne hM hc e
  have hbs : ∀ b, b < base → ¬ F b := fun b hb hf => by
    have := h.hN.1
    rcases hF b hf with e | ⟨e, -⟩ <;> omega
  exact ⟨⟨h.cd.chg k (av (by decide) (by decide)) (av (by decide) (by decide)) (av (by decide) (by decide)) (av (by decide) (by decide)) avi, h', h.la.chg_av k (av (by decide) (by decide)) avm,
    h.rl.chg k (av (by decide) (by decide)) avi, ⟨h.hN.1, Nat.lt_of_lt_of_le h.hN.2 k.size⟩, ⟨h.hb.1, h.hb.2.1, Nat.le_trans h.hb.2.2 k.size⟩⟩, ⟨k.below hbs h.hb.2.2, fun g cs hb => hb.chg k (av (by decide) (by decide) _ _ hb)⟩⟩
/-- The same, with a new block for the numbers. -/
theorem PSt.docNew {τ' : PS} {gN' : Nat} (h : PSt w base gc gx gl bl gm gN ka kb σ τ M) (k : Chg (· = gx) w w') (hn : w.heap.size ≤ gN') (hl : gN' < w'.heap.size) (h' : DocSt w' base gx gN' ka kb τ') : PSt w' base gc gx gl bl gm gN' ka kb σ τ' M ∧ Bel base w w' := by
  obtain ⟨L, N, P, hg, hX, -⟩ := h.dc
  have av : ∀ {t : TypeId}, t ≠ 108 → Av w (· = gx) t := fun a g cs hb hf => Blk.ne_ hb hX a hf
  have hbs : ∀ b, b < base → ¬ b = gx := fun b hb hf => by omega
  have hB := h.hb.2.2
  exact ⟨⟨(h.cd.renew hn).chg k (av (by decide)) (av (by decide)) (av (by decide)) (av (by decide)) (fun b cs hb _ => av (t := 3) (by decide) b cs hb), h', h.la.chg_av k (av (by decide)) (fun b M hM hf => imap_ne hM hX hf),
    (h.rl.renew hn).chg k (av (by decide)) (fun b cs hb _ => av (t := 3) (by decide) b cs hb), ⟨by omega, hl⟩, ⟨h.hb.1, h.hb.2.1, Nat.le_trans h.hb.2.2 k.size⟩⟩, ⟨k.below hbs h.hb.2.2, fun g cs hb => hb.chg k (av (by decide) _ _ hb)⟩⟩
theorem PSt.same (h : PSt w base gc gx gl bl gm gN ka kb σ τ M) (k : Below w.heap.size w w') : PSt w' base gc gx gl bl gm gN ka kb σ τ M ∧ Bel base w w' := ⟨h.call k, Bel.of k h.hb.2.2⟩
/-! Both loads grow. -/
theorem PSt.add (h : PSt w base gc gx gl bl gm gN ka kb σ τ M) (id : Int) (hk : (Lit.int .i64 id).wf = true) (hp : lmPos M) (hl : M.length ≤ 1000000) :
    Calls Try.prog 36 #[.pointer (some ⟨gl, 0, none⟩), .int .i64 id, .int .i64 1] w fun e w' => e = .returned (.tuple #[]) ∧
      (CodeSt w' base gc gN ka kb σ ∧ DocSt w' base gx gN ka kb τ ∧ LoadAt w' gl bl (lmAdd M id 1) ∧ RLoadN w' gm gN M ∧ (base ≤ gN ∧ gN < w'.heap.size) ∧ base ≤ w'.heap.size) ∧ Bel base w w' := by
  refine (load_add gl bl M id 1 w h.la hk hp hl).mono ?_
  rintro e w' ⟨rfl, h2, h3⟩
  have av : ∀ t, Av w (· = bl) t := fun t b cs hb hf => imap_ne h.la.2 hb hf.symm
  have hbs : ∀ b, b < base → ¬ b = bl := fun b hb hf => by have := h.hb.1; omega
  have hz := h3.size
  have hN := h.hN
  have hB := h.hb
  exact ⟨rfl, ⟨h.cd.chg h3 (av _) (av _) (av _) (av _) (fun b cs hb _ => av _ b cs hb), h.dc.chg h3 h.hb.2.2 hbs (av _) (av _), h2, h.rl.chg h3 (av _) (fun b cs hb _ => av _ b cs hb), ⟨by omega, by omega⟩, by omega⟩, ⟨h3.below hbs h.hb.2.2, fun g cs hb => hb.chg h3 (av _ _ _ hb)⟩⟩
theorem PSt.radd {M' : LM} {id : Int} (h1 : CodeSt w base gc gN ka kb σ) (h2 : DocSt w base gx gN ka kb τ) (h3 : LoadAt w gl bl M') (hM : M' = lmAdd M id 1) (h4 : RLoadN w gm gN M) (hN : base ≤ gN ∧ gN < w.heap.size) (hB : base ≤ w.heap.size) (hb : base ≤ bl ∧ base ≤ gm) (hs : lmSorted M) (hp : lmPos M) (hl : M.length ≤ 100000) :
    Calls Try.prog 52 #[.pointer (some ⟨gm, 0, none⟩), .int .i64 id, .int .i64 1] w fun e w' => e = .returned (.tuple #[]) ∧ PSt w' base gc gx gl bl gm gN ka kb σ τ M' ∧ Bel base w w' := by
  refine (refload_addO gm M id 1 w h4.at_ hs hp hl (by omega)).mono ?_
  rintro e w' ⟨rfl, ⟨P, p, Q, q, k1, k2⟩, k3⟩
  obtain ⟨_, _, _, _, h0, _⟩ := h4
  have av : ∀ {t : TypeId}, t ≠ 98 → Av w (· = gm) t := fun a g cs hb hf => Blk.ne_ hb h0 a hf
  have hbs : ∀ b, b < base → ¬ b = gm := fun b hb hf => by omega
  have hz := k3.size
  subst hM
  exact ⟨rfl, ⟨h1.chg k3 (av (by decide)) (av (by decide)) (av (by decide)) (av (by decide)) (fun b cs hb _ => av (t := 3) (by decide) b cs hb), h2.chg k3 hB hbs (av (by decide)) (av (by decide)), h3.chg_av k3 (av (by decide)) (fun b M hM hf => imap_ne hM h0 hf),
    ⟨P, p, Q, q, k1, ⟨own_mono k2.fst (by omega), own_mono k2.snd (by omega), k2.apart⟩, fun hi => by have := (k2.fst.block hi).1; omega, fun hi => by have := (k2.snd.block hi).1; omega⟩, ⟨by omega, by omega⟩, ⟨by omega, by omega, by omega⟩⟩, ⟨k3.below hbs hB, fun g cs hb => hb.chg k3 (av (by decide) _ _ hb)⟩⟩
end
end Go.Proofs.Ytkpkjpdhlmjchaa

namespace Go.Proofs.Ytkpkjpdhlmjchaa
open Go Go.RowKit Go.Deep

def tabT (σ : PS) (ka kb ver : Int) (l : List Bk) : List Int := if σ.ho = true ∧ σ.hv = ver then σ.T else tableOf ka kb σ.s.toNat (l.map Bk.id)
def hashS (σ : PS) (ka kb ver : Int) (l : List Bk) : PS := ⟨σ.k, σ.s, σ.so, σ.v0, σ.wt, σ.ts, true, ver, tabT σ ka kb ver l⟩
def turnS (σ : PS) (ver : Int) (l : List Bk) : PS := ⟨σ.k, σ.s, true, ver, (swT σ.so σ.v0 ver σ.wt σ.ts l).1, pickTs (swT σ.so σ.v0 ver σ.wt σ.ts l).1 (swT σ.so σ.v0 ver σ.wt σ.ts l).2, σ.ho, σ.hv, σ.T⟩
def setS (k s : Int) : PS := ⟨k, s, false, 0, 0, [], false, 0, []⟩
def pickS (σ : PS) (ka kb ver : Int) (l : List Bk) : PS := if σ.k = 1 then turnS σ ver l else if σ.k = 4 then hashS σ ka kb ver l else σ
def pickN (σ : PS) (ka kb ver : Int) (l : List Bk) (M : LM) (t : Tup) (x y : Nat) : Int :=
  if σ.k = 1 then pickId (swT σ.so σ.v0 ver σ.wt σ.ts l).2 else if σ.k = 2 then (foldB M l).id else if σ.k = 3 then (foldB M (drawnL l [(x : Int), (y : Int)])).id else pickI ka kb (tabT σ ka kb ver l) t
structure PSok (σ : PS) (B : Int) : Prop where
  pk : polOk σ.k σ.s = true
  sz : σ.s = 13 ∨ σ.s = 251
  tr : TrnOk σ.wt σ.ts B
  sw : σ.so = true → σ.wt = sumW (σ.ts.map (·.1)) ∧ 0 < σ.ts.length
  tb : σ.ho = true → 0 < σ.T.length ∧ σ.T.length ≤ 65536
theorem PSok.nat {σ : PS} {B : Int} (h : PSok σ B) : ∃ m : Nat, σ.s = (m : Int) ∧ (m = 13 ∨ m = 251) := by
  rcases h.sz with e | e
  · exact ⟨13, e, .inl rfl⟩
  · exact ⟨251, e, .inr rfl⟩
theorem law_ids {l : List Bk} (h : bkLaw 13 l) : ∀ b ∈ l, 1 ≤ b.id ∧ b.id ≤ 65535 := bkRight_ids h.2.1
theorem law_w {l : List Bk} (h : bkLaw 13 l) : ∀ b ∈ l, 0 ≤ b.w ∧ b.w ≤ 1000 := by
  intro b hb
  obtain ⟨i, hi⟩ := List.mem_iff_getElem?.1 hb
  have := h.2.1.2 i b hi
  exact ⟨this.2.2.1, this.2.2.2.1⟩
theorem law_wf {l : List Bk} (h : bkLaw 13 l) : ∀ b ∈ l, bkWf b := fun b hb => by
  have := law_ids h b hb
  exact wf_i64b (by omega)
theorem law_ne {l : List Bk} (h : bkLaw 13 l) : ∀ i ∈ l.map Bk.id, i ≠ 0 := bkRight_ne h.2.1
theorem reads_lt {w : World} {base n : Nat} {A : Option Addr} {xs : List Value} (h : Reads w base 6 A n xs) (h0 : 0 < n) : ∀ a, A = some a → a.block < base := by
  obtain ⟨ad, rfl, hb, -⟩ := h.2 h0
  rintro a ⟨⟩
  exact hb
theorem TurnAt.chg {F : Nat → Prop} {w w' : World} {base gt : Nat} {s : Bool} {v wt : Int} {ts : List Trn} (h : TurnAt w base gt s v wt ts) (k : Chg F w w') (a2 : Av w F 184) (a3 : Av w F 187) : TurnAt w' base gt s v wt ts := by
  obtain ⟨A, c, t1, t2⟩ := h
  refine ⟨A, c, t1.chg k (a2 _ _ t1), t2.chg k fun b hb => ?_⟩
  obtain ⟨a, rfl, rfl⟩ := hb
  rcases t2.2 with ⟨k1, _⟩ | ⟨g, cap, cur, k1, hg, hh, _⟩
  · simp at k1
  · simp only [Value.slice.injEq, Option.some.injEq] at k1
    obtain ⟨rfl, -⟩ := k1
    exact a3 _ _ hh
section
variable {w : World} {base gc gx gl bl gm gN : Nat} {ka kb : Int} {σ τ : PS} {M : LM} {B : Int} {l : List Bk} {A : Option Addr} {c : Nat}
theorem new30 (S : PSt w base gc gx gl bl gm gN ka kb σ τ M) (hm : σ.s = 13 ∨ σ.s = 251) (ver : Int) (hr : Reads w base 6 A l.length (l.flatMap Bk.cells)) (hl : bkLaw 13 l) (h0 : 0 < l.length) : ∀ W, Below w.heap.size w W →
    Calls Try.prog 60 #[.agg #[.int .i64 ver, .slice A l.length c], .agg #[.int .u64 ka, .int .u64 kb], .int .i64 σ.s] W fun e w' => (∃ gT, e = .returned (.tuple #[.pointer (some ⟨gT, 0, none⟩), .int .i64 0]) ∧ TabF w' w.heap.size gT ka kb (tableOf ka kb σ.s.toNat (l.map Bk.id)) ∧ W.heap.size ≤ gT) ∧ Below W.heap.size W w' := by
  intro W hb
  obtain ⟨m, e, hm⟩ : ∃ m : Nat, σ.s = (m : Int) ∧ (m = 13 ∨ m = 251) := by
    rcases hm with e | e
    · exact ⟨13, e, .inl rfl⟩
    · exact ⟨251, e, .inr rfl⟩
  have hB := S.hb.2.2
  have hl13 := hl.1
  rw [e, Int.toNat_natCast]
  refine (new_some4 ver l A c ka kb m W ((hr.below (hb.mono hB)).more (Nat.le_trans hB hb.size)) (by omega) h0 (by omega) (law_ids hl)).mono ?_
  rintro e w' ⟨gT, rfl, h1, h2, h3⟩
  exact ⟨⟨gT, rfl, h1.more hb.size, h2⟩, h3⟩
theorem tab_len30 (hm : σ.s = 13 ∨ σ.s = 251) (hl : bkLaw 13 l) (h0 : 0 < l.length) : 0 < (tableOf ka kb σ.s.toNat (l.map Bk.id)).length ∧ (tableOf ka kb σ.s.toNat (l.map Bk.id)).length ≤ 65536 := by
  have hm2 : σ.s.toNat = 13 ∨ σ.s.toNat = 251 := by omega
  rw [tableOf_len hm2 (by rw [List.length_map]; exact h0) (law_ne hl)]
  omega
/-- A hash of the code's chooser. -/
theorem PSt.hash (S : PSt w base gc gx gl bl gm gN ka kb σ τ M) (ok : PSok σ B) (ver : Int) (t : Tup) (hr : Reads w base 6 A l.length (l.flatMap Bk.cells)) (hl : bkLaw 13 l) (h0 : 0 < l.length) :
    Calls Try.prog 42 #[.pointer (some ⟨gc, 0, none⟩), .agg #[.int .i64 ver, .slice A l.length c], t.val] w fun e w' => e = .returned (.tuple #[.int .i64 (pickI ka kb (tabT σ ka kb ver l) t), .int .i64 0]) ∧ PSt w' base gc gx gl bl gm gN ka kb (hashS σ ka kb ver l) τ M ∧ Bel base w w' := by
  obtain ⟨gt, tp, h1, h2, hC, hT, hH⟩ := S.cd
  by_cases hc : σ.ho = true ∧ σ.hv = ver
  · have e : tabT σ ka kb ver l = σ.T := by unfold tabT; rw [if_pos hc]
    have e2 : hashS σ ka kb ver l = σ := by
      unfold hashS
      rw [e]
      obtain ⟨k, s, so, v0, wt, ts, ho, hv, T⟩ := σ
      obtain ⟨rfl, rfl⟩ := hc
      rfl
    rw [e, e2]
    obtain ⟨gT, gp, p1, rfl, p3, p4⟩ := hH hc.1
    obtain ⟨q1, q2⟩ := ok.tb hc.1
    obtain ⟨hc1, hc2⟩ := hc
    rw [hc1, hc2] at hC
    refine (polhash_same ver A l.length c t σ.T hC (by omega) q1 q2 ⟨gp, p3, p4⟩).mono ?_
    rintro e w' ⟨rfl, hb⟩
    exact ⟨rfl, S.same hb⟩
  · have e : tabT σ ka kb ver l = tableOf ka kb σ.s.toNat (l.map Bk.id) := by unfold tabT; rw [if_neg hc]
    have NEW := new30 (c := c) S ok.sz ver hr hl h0
    obtain ⟨q1, q2⟩ := tab_len30 (ka := ka) (kb := kb) ok.sz hl h0
    have K : Calls Try.prog 42 #[.pointer (some ⟨gc, 0, none⟩), .agg #[.int .i64 ver, .slice A l.length c], t.val] w fun e w' => e = .returned (.tuple #[.int .i64 (pickI ka kb (tabT σ ka kb ver l) t), .int .i64 0]) ∧ (∃ gT, w.heap.size ≤ gT ∧ ChBlk w' gc σ.k σ.s ka kb (.pointer (some ⟨gt, 0, none⟩)) (.pointer (some ⟨gT, 0, none⟩)) true ver ∧ TabF w' w.heap.size gT ka kb (tabT σ ka kb ver l)) ∧ Chg (· = gc) w w' := by
      rw [e]
      by_cases hh : σ.ho = true
      · rw [hh] at hC
        exact polhash_old ver A l.length c t _ hC (by omega) (fun h => hc ⟨hh, h⟩) q1 q2 NEW
      · have hh : σ.ho = false := by simpa using hh
        rw [hh] at hC
        exact polhash_new ver A l.length c t _ hC (by omega) q1 q2 NEW
    refine K.mono ?_
    rintro e w' ⟨rfl, ⟨gT, -, k2, gp, k3, k4, k5⟩, k6⟩
    have av : ∀ {t : TypeId}, t ≠ 149 → Av w (· = gc) t := fun a g cs hb hf => Blk.ne_ hb hC a hf
    have hN := S.hN.2
    refine ⟨rfl, S.code (k6.mono fun b _ h => .inr h) ⟨gt, _, h1, h2, k2, hT.chg k6 (av (by decide)) (av (by decide)), fun _ => ⟨gT, gp, ?_, rfl, k4, k5⟩⟩⟩
    omega
/-- A pick of the code's chooser. -/
theorem PSt.pick (S : PSt w base gc gx gl bl gm gN ka kb σ τ M) (ok : PSok σ B) (hB : 0 ≤ B ∧ B ≤ 1000000000000) (ver : Int) (t : Tup) (x y : Nat) (hx : x < 18446744073709551616) (hy : y < 18446744073709551616) (hr : Reads w base 6 A l.length (l.flatMap Bk.cells)) (hl : bkLaw 13 l) (h0 : 0 < l.length) :
    Calls Try.prog 41 #[.pointer (some ⟨gc, 0, none⟩), .agg #[.int .i64 ver, .slice A l.length c], .pointer (some ⟨gl, 0, none⟩), t.val, .int .u64 x, .int .u64 y] w fun e w' => e = .returned (.tuple #[.int .i64 (pickN σ ka kb ver l M t x y), .int .i64 0]) ∧ PSt w' base gc gx gl bl gm gN ka kb (pickS σ ka kb ver l) τ M ∧ Bel base w w' := by
  obtain ⟨gt, tp, h1, h2, hC, hT, hH⟩ := S.cd
  have hbase := S.hb.2.2
  have hl13 := hl.1
  have hrW : ∀ {W}, Below w.heap.size w W → Reads W W.heap.size 6 A l.length (l.flatMap Bk.cells) := fun hb => (hr.below (hb.mono hbase)).more (Nat.le_trans hbase hb.size)
  rcases (polOk_parts ok.pk).1 with hk | hk | hk | hk
  · have e1 : pickS σ ka kb ver l = turnS σ ver l := by unfold pickS; rw [if_pos hk]
    have e2 : pickN σ ka kb ver l M t x y = pickId (swT σ.so σ.v0 ver σ.wt σ.ts l).2 := by unfold pickN; rw [if_pos hk]
    rw [e1, e2]
    rw [hk] at hC
    refine (polpick_rr (fun W w' => PSt w' base gc gx gl bl gm gN ka kb (turnS σ ver l) τ M ∧ Bel base W w') ver A l.length c t (.pointer (some ⟨gl, 0, none⟩)) x y (pickId (swT σ.so σ.v0 ver σ.wt σ.ts l).2) hC (by omega) ?_).mono ?_
    · intro W hb
      have S' := S.call hb
      have hC' := Blk.call hC hb
      refine (swrr_pickB base gt σ.so σ.v0 σ.wt σ.ts ver l A c B W (hT.call hb) S'.hb.2.2 h1 ok.tr hB.1 hB.2 (hrW hb) (fun a ha => by have := reads_lt hr h0 a ha; omega) (by omega) (law_w hl)).mono ?_
      rintro e w' ⟨rfl, k2, k3⟩
      have k4 : Chg (CB W base gc) W w' := k3.mono fun b _ h => .inl h
      refine ⟨⟨_, rfl⟩, S'.code k4 ⟨gt, tp, h1, h2, ?_, k2, fun ho => ?_⟩⟩
      · have := hC'.chg k3 (fun k => tb_not hC' k.1)
        unfold turnS
        dsimp only
        rw [hk]
        exact this
      · obtain ⟨gT, gp, p1, p2, p3, p4⟩ := hH ho
        have p3' := p3.call hb
        have p4' := p4.keep hb
        obtain ⟨cs, hcs⟩ := plat_blk p4'
        exact ⟨gT, gp, p1, p2, p3'.chg k4 (av_cb S'.cd (by decide) (by decide) (by decide) _ _ p3'), rowIs_chg p4' k4 (av_cb S'.cd (t := 3) (by decide) (by decide) (by decide) _ _ hcs)⟩
    · rintro e w' ⟨rfl, W, hb, k1, k2⟩
      exact ⟨rfl, k1, (Bel.of hb hbase).trans k2⟩
  · have e1 : pickS σ ka kb ver l = σ := by unfold pickS; rw [if_neg (by omega), if_neg (by omega)]
    have e2 : pickN σ ka kb ver l M t x y = leastId M l := by unfold pickN leastId; rw [if_neg (by omega), if_pos hk, if_pos h0]
    rw [e1, e2]
    rw [hk] at hC
    refine (polpick_ll (fun W w' => Below W.heap.size W w') ver A l.length c t (.pointer (some ⟨gl, 0, none⟩)) x y (leastId M l) hC (by omega) ?_).mono ?_
    · intro W hb
      refine (least_pick ver l A c gl bl M W (hrW hb) (by omega) (S.la.call hb) (law_wf hl)).mono ?_
      rintro e w' ⟨rfl, h⟩
      exact ⟨⟨_, rfl⟩, h⟩
    · rintro e w' ⟨rfl, W, hb, hq⟩
      exact ⟨rfl, S.same (below_chain hq hb)⟩
  · have e1 : pickS σ ka kb ver l = σ := by unfold pickS; rw [if_neg (by omega), if_neg (by omega)]
    have e2 : pickN σ ka kb ver l M t x y = (foldB M (drawnL l [(x : Int), (y : Int)])).id := by unfold pickN; rw [if_neg (by omega), if_neg (by omega), if_pos hk]
    rw [e1, e2]
    rw [hk] at hC
    refine (polpick_tc (fun W w' => Below W.heap.size W w') ver A l.length c t (.pointer (some ⟨gl, 0, none⟩)) x y (foldB M (drawnL l [(x : Int), (y : Int)])).id hC (by omega) ?_).mono ?_
    · intro W hb
      refine (two_pick ver l A c gl bl M x y W (hrW hb) (by omega) hx hy (S.la.call hb) (law_wf hl)).mono ?_
      rintro e w' ⟨rfl, h⟩
      exact ⟨⟨_, rfl⟩, h⟩
    · rintro e w' ⟨rfl, W, hb, hq⟩
      exact ⟨rfl, S.same (below_chain hq hb)⟩
  · have e1 : pickS σ ka kb ver l = hashS σ ka kb ver l := by unfold pickS; rw [if_neg (by omega), if_pos hk]
    have e2 : pickN σ ka kb ver l M t x y = pickI ka kb (tabT σ ka kb ver l) t := by unfold pickN; rw [if_neg (by omega), if_neg (by omega), if_neg (by omega)]
    rw [e1, e2]
    rw [hk] at hC
    refine (polpick_ha (fun W w' => PSt w' base gc gx gl bl gm gN ka kb (hashS σ ka kb ver l) τ M ∧ Bel base W w') ver A l.length c t (.pointer (some ⟨gl, 0, none⟩)) x y (pickI ka kb (tabT σ ka kb ver l) t) 0 hC (by omega) ?_).mono ?_
    · intro W hb
      exact (S.call hb).hash ok ver t (hr.below (hb.mono hbase)) hl h0
    · rintro e w' ⟨rfl, W, hb, k1, k2⟩
      exact ⟨rfl, k1, (Bel.of hb hbase).trans k2⟩
/-! Of no backends. -/
theorem PSt.hash0 (S : PSt w base gc gx gl bl gm gN ka kb σ τ M) (ver : Int) (t : Tup) :
    Calls Try.prog 42 #[.pointer (some ⟨gc, 0, none⟩), .agg #[.int .i64 ver, .slice A 0 c], t.val] w fun e w' => e = .returned (.tuple #[.int .i64 0, .int .i64 8]) ∧ PSt w' base gc gx gl bl gm gN ka kb σ τ M ∧ Bel base w w' := by
  obtain ⟨gt, tp, h1, h2, hC, hT, hH⟩ := S.cd
  refine (none_hash ver A c t hC).mono ?_
  rintro e w' ⟨rfl, hb⟩
  exact ⟨rfl, S.same hb⟩
theorem PSt.pick0 (S : PSt w base gc gx gl bl gm gN ka kb σ τ M) (ver : Int) (t : Tup) (x y : Int) :
    Calls Try.prog 41 #[.pointer (some ⟨gc, 0, none⟩), .agg #[.int .i64 ver, .slice A 0 c], .pointer (some ⟨gl, 0, none⟩), t.val, .int .u64 x, .int .u64 y] w fun e w' => e = .returned (.tuple #[.int .i64 0, .int .i64 8]) ∧ PSt w' base gc gx gl bl gm gN ka kb σ τ M ∧ Bel base w w' := by
  obtain ⟨gt, tp, h1, h2, hC, hT, hH⟩ := S.cd
  refine (none_pick ver A c t _ x y hC).mono ?_
  rintro e w' ⟨rfl, hb⟩
  exact ⟨rfl, S.same hb⟩
/-! Set and Kind. -/
theorem PSt.set (S : PSt w base gc gx gl bl gm gN ka kb σ τ M) (k2 s2 : Int) (hp : polOk k2 s2 = true) :
    Calls Try.prog 47 #[.pointer (some ⟨gc, 0, none⟩), .agg #[.int .i64 k2, .int .i64 s2]] w fun e w' => e = .returned (.int .i64 0) ∧ PSt w' base gc gx gl bl gm gN ka kb (setS k2 s2) τ M ∧ Bel base w w' := by
  obtain ⟨gt, tp, h1, h2, hC, hT, hH⟩ := S.cd
  refine (polset_ok k2 s2 hC hp).mono ?_
  rintro e w' ⟨rfl, ⟨gn, k1, k2, k3⟩, k4⟩
  have hB := S.hb.2.2
  exact ⟨rfl, S.code (k4.mono fun b _ h => .inr h) ⟨gn, _, by omega, h2, k2, k3.mono hB, fun h => by cases h⟩⟩
theorem PSt.setBad (S : PSt w base gc gx gl bl gm gN ka kb σ τ M) (k2 s2 : Int) (hp : polOk k2 s2 = false) :
    Calls Try.prog 47 #[.pointer (some ⟨gc, 0, none⟩), .agg #[.int .i64 k2, .int .i64 s2]] w fun e w' => e = .returned (.int .i64 1) ∧ PSt w' base gc gx gl bl gm gN ka kb σ τ M ∧ Bel base w w' := by
  obtain ⟨gt, tp, h1, h2, hC, hT, hH⟩ := S.cd
  refine (polset_bad k2 s2 hC hp).mono ?_
  rintro e w' ⟨rfl, hb⟩
  exact ⟨rfl, S.same hb⟩
theorem PSt.kind (S : PSt w base gc gx gl bl gm gN ka kb σ τ M) : Calls Try.prog 50 #[.pointer (some ⟨gc, 0, none⟩)] w fun e w' => e = .returned (.int .i64 σ.k) ∧ w = w' := by
  obtain ⟨gt, tp, h1, h2, hC, hT, hH⟩ := S.cd
  exact polkind_any hC
end
end Go.Proofs.Ytkpkjpdhlmjchaa

namespace Go.Proofs.Ytkpkjpdhlmjchaa
open Go Go.RowKit Go.Deep

def tup64 (t : Tup) : Prop := t.hi < 18446744073709551616 ∧ t.lo < 18446744073709551616 ∧ t.hi' < 18446744073709551616 ∧ t.lo' < 18446744073709551616
theorem pickTs_fst (wt : Int) (ts : List Trn) : (pickTs wt ts).map (·.1) = ts.map (·.1) := by
  unfold pickTs
  split
  · rfl
  · rename_i h
    rw [List.map_set]
    have h1 : (addT ts).map (·.1) = ts.map (·.1) := by simp [addT]
    rw [h1]
    have h2 : bestI ts < ts.length := by
      unfold bestI
      have := bestN_lt (addT ts) (by rw [addT_len]; omega) ts.length (by rw [addT_len]; exact Nat.le_refl _)
      rwa [addT_len] at this
    have h3 : ((addT ts).getD (bestI ts) trn0).1 = (ts.map (·.1)).getD (bestI ts) bk0 := by
      rw [List.getD_eq_getElem?_getD, List.getD_eq_getElem?_getD, ← h1, List.getElem?_map, List.getElem?_eq_getElem (by rw [addT_len]; exact h2)]
      rfl
    rw [h3, List.getD_eq_getElem?_getD, List.getElem?_eq_getElem (by rw [List.length_map]; exact h2)]
    exact List.set_getElem_self _
section
variable {w : World} {base gc gx gl bl gm gN : Nat} {ka kb : Int} {σ τ : PS} {M : LM} {B : Int} {l : List Bk} {A : Option Addr} {c : Nat}
theorem refnew30 (S : PSt w base gc gx gl bl gm gN ka kb σ τ M) (hm : τ.s = 13 ∨ τ.s = 251) (hr : Reads w base 6 A l.length (l.flatMap Bk.cells)) (hl : bkLaw 13 l) (h0 : 0 < l.length) : ∀ W, Below w.heap.size w W →
    Calls Try.prog 63 #[.slice A l.length c, .agg #[.int .u64 ka, .int .u64 kb], .int .i64 τ.s] W fun e w' => (∃ gp, e = .returned (.tuple #[.slice (some ⟨gp, 0, none⟩) (tableOf ka kb τ.s.toNat (l.map Bk.id)).length (tableOf ka kb τ.s.toNat (l.map Bk.id)).length, .int .i64 0]) ∧ PlAt w' gp (tableOf ka kb τ.s.toNat (l.map Bk.id)).length (tableOf ka kb τ.s.toNat (l.map Bk.id)) ∧ W.heap.size ≤ gp) ∧ Below W.heap.size W w' := by
  intro W hb
  obtain ⟨m, e, hm⟩ : ∃ m : Nat, τ.s = (m : Int) ∧ (m = 13 ∨ m = 251) := by
    rcases hm with e | e
    · exact ⟨13, e, .inl rfl⟩
    · exact ⟨251, e, .inr rfl⟩
  have hB := S.hb.2.2
  have hl13 := hl.1
  rw [e, Int.toNat_natCast, tableOf_len hm (by rw [List.length_map]; exact h0) (law_ne hl)]
  refine (refnew_some l A c ka kb m W ((hr.below (hb.mono hB)).more (Nat.le_trans hB hb.size)) hm h0 (by omega) (law_ids hl)).mono ?_
  rintro e w' ⟨gp, rfl, h1, h2, h3⟩
  exact ⟨⟨gp, rfl, h1, h2⟩, h3⟩
/-- A hash of the document's chooser. -/
theorem PSt.rhash (S : PSt w base gc gx gl bl gm gN ka kb σ τ M) (ok : PSok τ B) (ver : Int) (t : Tup) (ht : tup64 t) (hr : Reads w base 6 A l.length (l.flatMap Bk.cells)) (hl : bkLaw 13 l) (h0 : 0 < l.length) :
    Calls Try.prog 46 #[.pointer (some ⟨gx, 0, none⟩), .int .i64 ver, .slice A l.length c, t.val] w fun e w' => e = .returned (.tuple #[.int .i64 (pickI ka kb (tabT τ ka kb ver l) t), .int .i64 0]) ∧ PSt w' base gc gx gl bl gm gN ka kb σ (hashS τ ka kb ver l) M ∧ Bel base w w' := by
  obtain ⟨L, N, P, h1, hX, hT, hH⟩ := S.dc
  obtain ⟨x1, x2, x3, x4⟩ := ht
  by_cases hc : τ.ho = true ∧ τ.hv = ver
  · have e : tabT τ ka kb ver l = τ.T := by unfold tabT; rw [if_pos hc]
    have e2 : hashS τ ka kb ver l = τ := by
      unfold hashS
      rw [e]
      obtain ⟨k, s, so, v0, wt, ts, ho, hv, T⟩ := τ
      obtain ⟨rfl, rfl⟩ := hc
      rfl
    rw [e, e2]
    obtain ⟨gp, p1, rfl, p4⟩ := hH hc.1
    obtain ⟨q1, q2⟩ := ok.tb hc.1
    obtain ⟨hc1, hc2⟩ := hc
    rw [hc1, hc2] at hX
    refine (refpolhash_same ver A l.length c t τ.T hX (by omega) q1 q2 x1 x2 x3 x4 p4).mono ?_
    rintro e w' ⟨rfl, hb⟩
    exact ⟨rfl, S.same hb⟩
  · have e : tabT τ ka kb ver l = tableOf ka kb τ.s.toNat (l.map Bk.id) := by unfold tabT; rw [if_neg hc]
    have NEW := refnew30 (c := c) S ok.sz hr hl h0
    obtain ⟨q1, q2⟩ := tab_len30 (ka := ka) (kb := kb) ok.sz hl h0
    have K : Calls Try.prog 46 #[.pointer (some ⟨gx, 0, none⟩), .int .i64 ver, .slice A l.length c, t.val] w fun e w' => e = .returned (.tuple #[.int .i64 (pickI ka kb (tabT τ ka kb ver l) t), .int .i64 0]) ∧ (∃ gp, w.heap.size ≤ gp ∧ RChBlk w' gx τ.k τ.s ka kb τ.so τ.v0 L N true ver (.slice (some ⟨gp, 0, none⟩) (tabT τ ka kb ver l).length (tabT τ ka kb ver l).length) ∧ PlAt w' gp (tabT τ ka kb ver l).length (tabT τ ka kb ver l)) ∧ Chg (· = gx) w w' := by
      rw [e]
      by_cases hh : τ.ho = true
      · rw [hh] at hX
        exact refpolhash_old ver A l.length c t _ hX (by omega) q1 q2 x1 x2 x3 x4 (fun h => hc ⟨hh, h⟩) NEW
      · have hh : τ.ho = false := by simpa using hh
        rw [hh] at hX
        exact refpolhash_new ver A l.length c t _ hX (by omega) q1 q2 x1 x2 x3 x4 NEW
    refine K.mono ?_
    rintro e w' ⟨rfl, ⟨gp, k1, k2, k3⟩, k6⟩
    have hN := S.hN.2
    have hbs : ∀ b, b < base → ¬ b = gx := fun b hb hf => by omega
    refine ⟨rfl, S.doc k6 (fun b h => .inl h) ⟨L, N, _, h1, k2, fun so => ?_, fun _ => ⟨gp, by omega, rfl, k3⟩⟩⟩
    obtain ⟨A', c', l', p0, p1, p2, p3, p5⟩ := hT so
    exact ⟨A', c', l', p0, p1, p2, p3.below (k6.below hbs S.hb.2.2), rowIs_chg p5 k6 (rch_ne hX p5)⟩
/-- A pick of the document's chooser. -/
theorem PSt.rpick (S : PSt w base gc gx gl bl gm gN ka kb σ τ M) (ok : PSok τ B) (hB2 : B ≤ 1000000000000) (hM : M.length ≤ 1000000) (ver : Int) (t : Tup) (ht : tup64 t) (x y : Nat) (hx : x < 18446744073709551616) (hy : y < 18446744073709551616) (hr : Reads w base 6 A l.length (l.flatMap Bk.cells)) (hl : bkLaw 13 l) (h0 : 0 < l.length) :
    Calls Try.prog 49 #[.pointer (some ⟨gx, 0, none⟩), .int .i64 ver, .slice A l.length c, .pointer (some ⟨gm, 0, none⟩), t.val, .int .u64 x, .int .u64 y] w fun e w' => e = .returned (.tuple #[.int .i64 (pickN τ ka kb ver l M t x y), .int .i64 0]) ∧ ∃ gN', PSt w' base gc gx gl bl gm gN' ka kb σ (pickS τ ka kb ver l) M ∧ Bel base w w' := by
  obtain ⟨L, N, P, h1, hX, hT, hH⟩ := S.dc
  have hbase := S.hb.2.2
  have hl13 := hl.1
  have hrW : ∀ {W}, Below w.heap.size w W → Reads W W.heap.size 6 A l.length (l.flatMap Bk.cells) := fun hb => (hr.below (hb.mono hbase)).more (Nat.le_trans hbase hb.size)
  rcases (polOk_parts ok.pk).1 with hk | hk | hk | hk
  · have e1 : pickS τ ka kb ver l = turnS τ ver l := by unfold pickS; rw [if_pos hk]
    have e2 : pickN τ ka kb ver l M t x y = pickId (swT τ.so τ.v0 ver τ.wt τ.ts l).2 := by unfold pickN; rw [if_pos hk]
    rw [e1, e2]
    rw [hk] at hX
    refine (refpolpick_rr (fun W w' => ∃ gN', PSt w' base gc gx gl bl gm gN' ka kb σ (turnS τ ver l) M ∧ Bel base W w') ver A l.length c t (.pointer (some ⟨gm, 0, none⟩)) x y (pickId (swT τ.so τ.v0 ver τ.wt τ.ts l).2) hX (by omega) ?_).mono ?_
    · intro W hb
      have S' := S.call hb
      have hX' := Blk.call hX hb
      have hsz := hb.size
      by_cases hc : τ.so = true ∧ τ.v0 = ver
      · have e3 : swT τ.so τ.v0 ver τ.wt τ.ts l = (τ.wt, τ.ts) := by unfold swT; rw [if_pos hc]
        obtain ⟨A', c', l', p0, rfl, rfl, p3, p5⟩ := hT hc.1
        obtain ⟨w1, w2⟩ := ok.sw hc.1
        have p5' := p5.keep hb
        obtain ⟨cs, hcs⟩ := plat_blk p5'
        have hl' : 0 < l'.length := by rw [← p0, List.length_map]; exact w2
        have hl2 : l'.length ≤ 1000 := by rw [← p0, List.length_map]; exact ok.tr.1
        have hp3 := reads_lt p3 hl'
        have hgN := S.hN.1
        rw [e3]
        rw [p0] at w1
        have hX2 := hX'
        rw [hc.1, hc.2] at hX2
        refine (refturn_same τ.ts l' p0 A' c' A l.length c hX2 p5' ((p3.below (hb.mono hbase)).more (by omega)) (fun a ha => by have := hp3 a ha; omega) hl' hl2 (fun x hx => by have := ok.tr.2.1 x hx; omega)).mono ?_
        rintro e w' ⟨rfl, k1, k2⟩
        have hge : ¬ gx = gN := fun h => rch_ne hX' p5' h.symm
        have hbs : ∀ b, b < base → ¬ b = gN := fun b hb hf => by omega
        have hsz2 := k2.size
        refine ⟨⟨_, rfl⟩, gN, S'.doc k2 (fun b h => .inr ⟨h, cs, hcs⟩) ⟨.slice A' l'.length c', .slice (some ⟨gN, 0, none⟩) l'.length l'.length, P, h1, ?_, fun _ => ⟨A', c', l', ?_, rfl, rfl, ?_, ?_⟩, fun ho => ?_⟩⟩
        · have := Blk.chg hX2 k2 hge
          unfold turnS
          dsimp only
          rw [hk]
          exact this
        · unfold turnS
          dsimp only
          rw [e3, pickTs_fst]
          exact p0
        · exact (p3.below (hb.mono hbase)).below (k2.below hbs S'.hb.2.2)
        · unfold turnS
          dsimp only
          rw [e3, w1]
          exact k1
        · obtain ⟨gp, q1, q2, q3⟩ := hH ho
          exact ⟨gp, q1, q2, rowIs_chg (q3.keep hb) k2 q1⟩
      · have e3 : swT τ.so τ.v0 ver τ.wt τ.ts l = (sumW l, zeroT l) := by unfold swT; rw [if_neg hc]
        rw [e3]
        have hag : ∀ a, A = some a → ¬ a.block = gx := fun a ha => by have := reads_lt hr h0 a ha; omega
        have K : Calls Try.prog 93 #[.pointer (some ⟨gx, 4, none⟩), .int .i64 ver, .slice A l.length c] W fun e w' => e = .returned (.tuple #[.int .i64 (pickId (zeroT l)), .bool true]) ∧ (∃ gN, W.heap.size ≤ gN ∧ RChBlk w' gx 1 τ.s ka kb true ver (.slice A l.length c) (.slice (some ⟨gN, 0, none⟩) l.length l.length) τ.ho τ.hv P ∧ PlAt w' gN l.length (nums (pickTs (sumW l) (zeroT l)))) ∧ Chg (· = gx) W w' := by
          by_cases hs : τ.so = true
          · rw [hs] at hX'
            exact refturn_old ver l A c (fun h => hc ⟨hs, h⟩) hX' (hrW hb) hag h0 (by omega) (law_w hl)
          · have hs : τ.so = false := by simpa using hs
            rw [hs] at hX'
            exact refturn_new ver l A c hX' (hrW hb) hag h0 (by omega) (law_w hl)
        refine K.mono ?_
        rintro e w' ⟨rfl, ⟨gN', k1, k2, k3⟩, k4⟩
        have hbs : ∀ b, b < base → ¬ b = gx := fun b hb hf => by omega
        refine ⟨⟨_, rfl⟩, gN', S'.docNew k4 k1 k3.lt ⟨.slice A l.length c, .slice (some ⟨gN', 0, none⟩) l.length l.length, P, h1, ?_, fun _ => ⟨A, c, l, ?_, rfl, rfl, ?_, ?_⟩, fun ho => ?_⟩⟩
        · unfold turnS
          dsimp only
          rw [hk]
          exact k2
        · unfold turnS
          dsimp only
          rw [e3, pickTs_fst, zeroT_fst]
        · exact (hr.below (hb.mono hbase)).below (k4.below hbs S'.hb.2.2)
        · unfold turnS
          dsimp only
          rw [e3]
          exact k3
        · obtain ⟨gp, q1, q2, q3⟩ := hH ho
          have q4 := (q3.keep hb).lt
          exact ⟨gp, by omega, q2, rowIs_chg (q3.keep hb) k4 (rch_ne hX' (q3.keep hb))⟩
    · rintro e w' ⟨rfl, W, hb, gN', k1, k2⟩
      exact ⟨rfl, gN', k1, (Bel.of hb hbase).trans k2⟩
  · have e1 : pickS τ ka kb ver l = τ := by unfold pickS; rw [if_neg (by omega), if_neg (by omega)]
    have e2 : pickN τ ka kb ver l M t x y = (foldB M l).id := by unfold pickN; rw [if_neg (by omega), if_pos hk]
    rw [e1, e2]
    rw [hk] at hX
    refine (refpolpick_ll (fun W w' => Below W.heap.size W w') ver A l.length c t (.pointer (some ⟨gm, 0, none⟩)) x y (foldB M l).id hX (by omega) ?_).mono ?_
    · intro W hb
      refine (ref27_pick l A c gm M W (hrW hb) (by omega) (S.call hb).rl.at_ hM).mono ?_
      rintro e w' ⟨rfl, n, rfl⟩
      exact ⟨⟨_, rfl⟩, below_drewN (Below.refl _ _) n⟩
    · rintro e w' ⟨rfl, W, hb, hq⟩
      exact ⟨rfl, gN, S.same (below_chain hq hb)⟩
  · have e1 : pickS τ ka kb ver l = τ := by unfold pickS; rw [if_neg (by omega), if_neg (by omega)]
    have e2 : pickN τ ka kb ver l M t x y = (foldB M (drawnL l [(x : Int), (y : Int)])).id := by unfold pickN; rw [if_neg (by omega), if_neg (by omega), if_pos hk]
    rw [e1, e2]
    rw [hk] at hX
    refine (refpolpick_tc (fun W w' => Below W.heap.size W w') ver A l.length c t (.pointer (some ⟨gm, 0, none⟩)) x y (foldB M (drawnL l [(x : Int), (y : Int)])).id hX (by omega) ?_).mono ?_
    · intro W hb
      refine (ref_pick l A c gm M x y W (hrW hb) (by omega) hx hy (S.call hb).rl.at_ hM).mono ?_
      rintro e w' ⟨rfl, h⟩
      exact ⟨⟨_, rfl⟩, h⟩
    · rintro e w' ⟨rfl, W, hb, hq⟩
      exact ⟨rfl, gN, S.same (below_chain hq hb)⟩
  · have e1 : pickS τ ka kb ver l = hashS τ ka kb ver l := by unfold pickS; rw [if_neg (by omega), if_pos hk]
    have e2 : pickN τ ka kb ver l M t x y = pickI ka kb (tabT τ ka kb ver l) t := by unfold pickN; rw [if_neg (by omega), if_neg (by omega), if_neg (by omega)]
    rw [e1, e2]
    rw [hk] at hX
    refine (refpolpick_ha (fun W w' => PSt w' base gc gx gl bl gm gN ka kb σ (hashS τ ka kb ver l) M ∧ Bel base W w') ver A l.length c t (.pointer (some ⟨gm, 0, none⟩)) x y (pickI ka kb (tabT τ ka kb ver l) t) 0 hX (by omega) ?_).mono ?_
    · intro W hb
      exact (S.call hb).rhash ok ver t ht (hr.below (hb.mono hbase)) hl h0
    · rintro e w' ⟨rfl, W, hb, k1, k2⟩
      exact ⟨rfl, gN, k1, (Bel.of hb hbase).trans k2⟩
theorem PSt.rset (S : PSt w base gc gx gl bl gm gN ka kb σ τ M) (k2 s2 : Int) (hp : polOk k2 s2 = true) :
    Calls Try.prog 48 #[.pointer (some ⟨gx, 0, none⟩), .agg #[.int .i64 k2, .int .i64 s2]] w fun e w' => e = .returned (.int .i64 0) ∧ PSt w' base gc gx gl bl gm gN ka kb σ (setS k2 s2) M ∧ Bel base w w' := by
  obtain ⟨L, N, P, h1, hX, hT, hH⟩ := S.dc
  refine (refpolset_ok k2 s2 w hX hp).mono ?_
  rintro e w' ⟨rfl, k1, k2⟩
  exact ⟨rfl, S.doc k2 (fun b h => .inl h) ⟨_, _, _, h1, k1, (fun h => nomatch h), (fun h => nomatch h)⟩⟩
theorem PSt.rsetBad (S : PSt w base gc gx gl bl gm gN ka kb σ τ M) (k2 s2 : Int) (hp : polOk k2 s2 = false) :
    Calls Try.prog 48 #[.pointer (some ⟨gx, 0, none⟩), .agg #[.int .i64 k2, .int .i64 s2]] w fun e w' => e = .returned (.int .i64 1) ∧ PSt w' base gc gx gl bl gm gN ka kb σ τ M ∧ Bel base w w' := by
  refine (refpolset_bad _ k2 s2 w hp).mono ?_
  rintro e w' ⟨rfl, hb⟩
  exact ⟨rfl, S.same hb⟩
theorem PSt.kcell (S : PSt w base gc gx gl bl gm gN ka kb σ τ M) : w.cell? ⟨gx, 0, none⟩ = some (.int .i64 τ.k) := by
  obtain ⟨L, N, P, h1, hX, hT, hH⟩ := S.dc
  exact hX.cell 0
end
end Go.Proofs.Ytkpkjpdhlmjchaa

namespace Go.Proofs.Ytkpkjpdhlmjchaa
open Go Go.RowKit Go.Deep

theorem trnOk_pick {wt : Int} {ts : List Trn} {B : Int} (h : TrnOk wt ts B) : TrnOk wt (pickTs wt ts) (B + 1000000) := by
  obtain ⟨h1, h2, h3, h4⟩ := h
  unfold pickTs
  split
  · exact ⟨h1, fun x hx => by have := h2 x hx; omega, h3, h4⟩
  · rename_i hne
    have ha : ∀ x ∈ addT ts, -B ≤ x.2 ∧ x.2 ≤ B + 1000 ∧ 0 ≤ x.1.w ∧ x.1.w ≤ 1000 := by
      intro x hx
      obtain ⟨y, hy, rfl⟩ := List.mem_map.1 hx
      have := h2 y hy
      dsimp only
      omega
    have hb : bestI ts < (addT ts).length := by
      unfold bestI
      exact bestN_lt (addT ts) (by rw [addT_len]; omega) ts.length (by rw [addT_len]; exact Nat.le_refl _)
    have hg : (addT ts).getD (bestI ts) trn0 ∈ addT ts := by
      rw [List.getD_eq_getElem?_getD, List.getElem?_eq_getElem hb]
      exact List.getElem_mem hb
    refine ⟨by rw [List.length_set, addT_len]; exact h1, fun x hx => ?_, h3, h4⟩
    rcases List.mem_or_eq_of_mem_set hx with hx | rfl
    · have := ha x hx; omega
    · have := ha _ hg
      dsimp only
      omega
theorem PSok.more {σ : PS} {B B' : Int} (h : PSok σ B) (hB : B ≤ B') : PSok σ B' :=
  ⟨h.pk, h.sz, ⟨h.tr.1, fun x hx => by have := h.tr.2.1 x hx; omega, h.tr.2.2⟩, h.sw, h.tb⟩
theorem PSok.turn {σ : PS} {B : Int} {l : List Bk} (h : PSok σ B) (hB : 0 ≤ B) (ver : Int) (hl : bkLaw 13 l) (h0 : 0 < l.length) : PSok (turnS σ ver l) (B + 1000000) := by
  have hl13 := hl.1
  have k := swT_ok (s := σ.so) (v0 := σ.v0) (ver := ver) (l := l) h.tr (by omega) (law_w hl) hB
  refine ⟨h.pk, h.sz, trnOk_pick k, fun _ => ?_, h.tb⟩
  unfold turnS
  dsimp only
  have hlen : ∀ (wt : Int) (ts : List Trn), (pickTs wt ts).length = ts.length := fun wt ts => by
    have := congrArg List.length (pickTs_fst wt ts)
    simpa using this
  rw [pickTs_fst, hlen]
  unfold swT
  split
  · rename_i hc
    exact h.sw hc.1
  · dsimp only
    rw [zeroT_fst]
    refine ⟨rfl, ?_⟩
    have := congrArg List.length (zeroT_fst l)
    rw [List.length_map] at this
    omega
theorem PSok.hash {σ : PS} {B : Int} {l : List Bk} (h : PSok σ B) (ka kb ver : Int) (hl : bkLaw 13 l) (h0 : 0 < l.length) : PSok (hashS σ ka kb ver l) B := by
  refine ⟨h.pk, h.sz, h.tr, h.sw, fun _ => ?_⟩
  show 0 < (tabT σ ka kb ver l).length ∧ _
  unfold hashS tabT
  split
  · rename_i hc
    exact h.tb hc.1
  · exact tab_len30 h.sz hl h0
theorem PSok.pick {σ : PS} {B : Int} {l : List Bk} (h : PSok σ B) (hB : 0 ≤ B) (ka kb ver : Int) (hl : bkLaw 13 l) (h0 : 0 < l.length) : PSok (pickS σ ka kb ver l) (B + 1000000) := by
  unfold pickS
  split
  · exact h.turn hB ver hl h0
  · split
    · exact (h.hash ka kb ver hl h0).more (by omega)
    · exact h.more (by omega)
theorem psok_set {k s : Int} (h : polOk k s = true) (hs : s ≤ 251) (B : Int) : PSok (setS k s) B := by
  have h2 := (polOk_parts h).2
  refine ⟨h, ?_, ⟨by simp [setS], by simp [setS], by simp [setS], by simp [setS]⟩, (fun e => nomatch e), (fun e => nomatch e)⟩
  obtain ⟨m, rfl, hm⟩ := sized_four h2
  show ((m : Nat) : Int) = 13 ∨ ((m : Nat) : Int) = 251
  omega
/-! Of the set. -/
def PSin (σ : PS) (K : Int → List Bk → Prop) : Prop := (σ.so = true → K σ.v0 (σ.ts.map (·.1))) ∧ (σ.ho = true → ∃ l, K σ.hv l ∧ ∀ x ∈ σ.T, x ∈ l.map Bk.id)
theorem psin_set (k s : Int) (K : Int → List Bk → Prop) : PSin (setS k s) K := ⟨(fun e => nomatch e), (fun e => nomatch e)⟩
section
variable {σ : PS} {K : Int → List Bk → Prop} {B : Int} {l : List Bk}
theorem swT_fst (h : PSin σ K) (hK : ∀ v a b, K v a → K v b → a = b) {ver : Int} (hl : K ver l) : (swT σ.so σ.v0 ver σ.wt σ.ts l).2.map (·.1) = l := by
  unfold swT
  split
  · rename_i hc
    have := h.1 hc.1
    rw [hc.2] at this
    exact hK _ _ _ this hl
  · exact zeroT_fst l
theorem tabT_in (h : PSin σ K) (ok : PSok σ B) (hK : ∀ v a b, K v a → K v b → a = b) {ver : Int} (hl : K ver l) (ka kb : Int) (hr : bkLaw 13 l) (h0 : 0 < l.length) : ∀ x ∈ tabT σ ka kb ver l, x ∈ l.map Bk.id := by
  unfold tabT
  split
  · rename_i hc
    obtain ⟨l', h1, h2⟩ := h.2 hc.1
    rw [hc.2] at h1
    obtain rfl := hK _ _ _ h1 hl
    exact h2
  · obtain ⟨m, e, hm⟩ := ok.nat
    rw [e, Int.toNat_natCast]
    exact fun x hx => tableOf_mem hm (by rw [List.length_map]; exact h0) (law_ne hr) hx
theorem PSin.pick (h : PSin σ K) (ok : PSok σ B) (hK : ∀ v a b, K v a → K v b → a = b) {ver : Int} (hl : K ver l) (ka kb : Int) (hr : bkLaw 13 l) (h0 : 0 < l.length) : PSin (pickS σ ka kb ver l) K := by
  unfold pickS
  split
  · refine ⟨fun _ => ?_, h.2⟩
    show K ver ((pickTs _ _).map (·.1))
    rw [pickTs_fst, swT_fst h hK hl]
    exact hl
  · split
    · exact ⟨h.1, fun _ => ⟨l, hl, tabT_in h ok hK hl ka kb hr h0⟩⟩
    · exact h
theorem PSin.hash (h : PSin σ K) (ok : PSok σ B) (hK : ∀ v a b, K v a → K v b → a = b) {ver : Int} (hl : K ver l) (ka kb : Int) (hr : bkLaw 13 l) (h0 : 0 < l.length) : PSin (hashS σ ka kb ver l) K :=
  ⟨h.1, fun _ => ⟨l, hl, tabT_in h ok hK hl ka kb hr h0⟩⟩
theorem hashI_in (h : PSin σ K) (ok : PSok σ B) (hK : ∀ v a b, K v a → K v b → a = b) {ver : Int} (hl : K ver l) (ka kb : Int) (t : Tup) (hr : bkLaw 13 l) (h0 : 0 < l.length) : pickI ka kb (tabT σ ka kb ver l) t ∈ l.map Bk.id := by
  have q := (ok.hash ka kb ver hr h0).tb rfl
  exact tabT_in h ok hK hl ka kb hr h0 _ (pickI_mem ka kb _ t q.1 q.2)
theorem pickId_in (ts : List Trn) (h0 : 0 < ts.length) : pickId ts ∈ (ts.map (·.1)).map Bk.id := by
  have hb : bestI ts < (addT ts).length := by
    unfold bestI
    exact bestN_lt (addT ts) (by rw [addT_len]; omega) ts.length (by rw [addT_len]; exact Nat.le_refl _)
  have h1 : (addT ts).map (·.1) = ts.map (·.1) := by simp [addT]
  unfold pickId
  rw [if_neg (by omega), List.getD_eq_getElem?_getD, List.getElem?_eq_getElem hb, ← h1]
  exact List.mem_map.2 ⟨_, List.mem_map.2 ⟨_, List.getElem_mem hb, rfl⟩, rfl⟩
theorem foldl_in (M : LM) : ∀ (r : List Bk) (x : Bk), r.foldl (betterB M) x ∈ x :: r
  | [], x => by simp
  | y :: r, x => by
    have h := foldl_in M r (betterB M x y)
    rw [List.foldl_cons]
    have e : betterB M x y = x ∨ betterB M x y = y := by unfold betterB; split <;> simp
    rcases List.mem_cons.1 h with h1 | h1
    · rw [h1]
      rcases e with e | e <;> rw [e] <;> simp
    · exact List.mem_cons_of_mem _ (List.mem_cons_of_mem _ h1)
theorem foldB_in (M : LM) {l : List Bk} (h0 : 0 < l.length) : foldB M l ∈ l := by
  cases l with
  | nil => simp at h0
  | cons x r => exact foldl_in M r x
theorem pickN_in (h : PSin σ K) (ok : PSok σ B) (hK : ∀ v a b, K v a → K v b → a = b) {ver : Int} (hl : K ver l) (ka kb : Int) (t : Tup) (x y : Nat) (hx : x < 18446744073709551616) (hy : y < 18446744073709551616) {M : LM} (hr : bkLaw 13 l) (h0 : 0 < l.length) :
    pickN σ ka kb ver l M t x y ∈ l.map Bk.id := by
  have hl13 := hr.1
  unfold pickN
  split
  · have e := swT_fst h hK hl
    have hlen := congrArg List.length e
    rw [List.length_map] at hlen
    have := pickId_in (swT σ.so σ.v0 ver σ.wt σ.ts l).2 (by omega)
    rwa [e] at this
  · split
    · exact List.mem_map.2 ⟨_, foldB_in M h0, rfl⟩
    · split
      · have hd : ∀ b ∈ drawnL l [(x : Int), (y : Int)], b ∈ l := by
          unfold drawnL
          rw [if_neg (by omega)]
          intro b hb
          simp only [List.map_cons, List.map_nil, Int.toNat_natCast, List.mem_cons, List.not_mem_nil, or_false] at hb
          rcases hb with rfl | rfl
          · exact drawB_mem hx (by omega) (by omega)
          · exact drawB_mem hy (by omega) (by omega)
        have hdl : 0 < (drawnL l [(x : Int), (y : Int)]).length := by unfold drawnL; rw [if_neg (by omega)]; simp
        exact List.mem_map.2 ⟨_, hd _ (foldB_in M hdl), rfl⟩
      · exact hashI_in h ok hK hl ka kb t hr h0
end
end Go.Proofs.Ytkpkjpdhlmjchaa

namespace Go.Proofs.Ytkpkjpdhlmjchaa
open Go Go.RowKit Go.Deep

/-- One of the two sets, as it was handed in. -/
structure SetOK (w : World) (ne : Prop) (K : Int → List Bk → Prop) (ver : Int) (l : List Bk) (A : Option Addr) : Prop where
  rd : Reads w w.heap.size 6 A l.length (l.flatMap Bk.cells)
  lw : bkLaw 13 l
  kn : ne → K ver l
/-- What a round leaves. -/
structure Rnd (ne : Prop) (K : Int → List Bk → Prop) (σ : PS) (B : Int) : Prop where
  ok : PSok σ B
  kin : ne → PSin σ K
section
variable {w w0 : World} {ne : Prop} {K : Int → List Bk → Prop} {gc gx gl bl gm gN : Nat} {ka kb : Int} {σ : PS} {M : LM} {B : Int} {l : List Bk} {A : Option Addr} {ver : Int}
theorem rnd_hash (c : Nat) (hs : SetOK w0 ne K ver l A) (hb : Below w0.heap.size w0 w) (S : PSt w w0.heap.size gc gx gl bl gm gN ka kb σ σ M) (R : Rnd ne K σ B) (hK : ne → ∀ v a b, K v a → K v b → a = b) (t : Tup) (ht : tup64 t) :
    Calls Try.prog 42 #[.pointer (some ⟨gc, 0, none⟩), .agg #[.int .i64 ver, .slice A l.length c], t.val] w fun e w' => ∃ I E σ', e = .returned (.tuple #[.int .i64 I, .int .i64 E]) ∧ PSt w' w0.heap.size gc gx gl bl gm gN ka kb σ' σ M ∧ Below w0.heap.size w0 w' ∧ Kp w w' ∧ (E = 0 ∨ E = 8) ∧ Rnd ne K σ' (B + 1000000) ∧ (E = 0 → ne → hasB l I = true) ∧ (E = 0 → (Lit.int .i64 I).wf = true ∨ ¬ ne) ∧
      ∀ W, PSt W w0.heap.size gc gx gl bl gm gN ka kb σ' σ M → Below w0.heap.size w0 W → Calls Try.prog 46 #[.pointer (some ⟨gx, 0, none⟩), .int .i64 ver, .slice A l.length c, t.val] W fun e w2 => e = .returned (.tuple #[.int .i64 I, .int .i64 E]) ∧ ∃ gN', PSt w2 w0.heap.size gc gx gl bl gm gN' ka kb σ' σ' M ∧ Below w0.heap.size w0 w2 ∧ Kp W w2 := by
  by_cases h0 : l.length = 0
  · rw [h0]
    refine (S.hash0 ver t).mono ?_
    rintro e w' ⟨rfl, h1, h2⟩
    refine ⟨0, 8, σ, rfl, h1, hb.trans h2.be, h2.kp, .inr rfl, ⟨R.ok.more (by omega), R.kin⟩, by omega, by omega, fun W S' hb' => ?_⟩
    refine (refpolhash_none _ ver A c t W).mono ?_
    rintro e w2 ⟨rfl, h3⟩
    have := S'.same h3
    exact ⟨rfl, gN, this.1, hb'.trans this.2.be, this.2.kp⟩
  · have h0 : 0 < l.length := by omega
    refine (S.hash R.ok ver t (hs.rd.below hb) hs.lw h0).mono ?_
    rintro e w' ⟨rfl, h1, h2⟩
    have hin := fun h => hashI_in (R.kin h) R.ok (hK h) (hs.kn h) ka kb t hs.lw h0
    refine ⟨_, 0, _, rfl, h1, hb.trans h2.be, h2.kp, .inl rfl, ⟨(R.ok.hash ka kb ver hs.lw h0).more (by omega), fun h => (R.kin h).hash R.ok (hK h) (hs.kn h) ka kb hs.lw h0⟩, fun _ h => hasB_iff.2 (hin h), fun _ => ?_, fun W S' hb' => ?_⟩
    · by_cases h : ne
      · obtain ⟨b, hb, e⟩ := List.mem_map.1 (hin h)
        rw [← e]
        exact .inl (law_wf hs.lw b hb)
      · exact .inr h
    · refine (S'.rhash R.ok ver t ht (hs.rd.below hb') hs.lw h0).mono ?_
      rintro e w2 ⟨rfl, h3, h4⟩
      exact ⟨rfl, gN, h3, hb'.trans h4.be, h4.kp⟩
theorem rnd_pick (c : Nat) (hs : SetOK w0 ne K ver l A) (hb : Below w0.heap.size w0 w) (S : PSt w w0.heap.size gc gx gl bl gm gN ka kb σ σ M) (R : Rnd ne K σ B) (hB : 0 ≤ B ∧ B ≤ 1000000000000) (hM : M.length ≤ 1000000) (hK : ne → ∀ v a b, K v a → K v b → a = b) (t : Tup) (ht : tup64 t) (x y : Nat) (hx : x < 18446744073709551616) (hy : y < 18446744073709551616) :
    Calls Try.prog 41 #[.pointer (some ⟨gc, 0, none⟩), .agg #[.int .i64 ver, .slice A l.length c], .pointer (some ⟨gl, 0, none⟩), t.val, .int .u64 x, .int .u64 y] w fun e w' => ∃ I E σ', e = .returned (.tuple #[.int .i64 I, .int .i64 E]) ∧ PSt w' w0.heap.size gc gx gl bl gm gN ka kb σ' σ M ∧ Below w0.heap.size w0 w' ∧ Kp w w' ∧ (E = 0 ∨ E = 8) ∧ Rnd ne K σ' (B + 1000000) ∧ (E = 0 → ne → hasB l I = true) ∧ (E = 0 → (Lit.int .i64 I).wf = true ∨ ¬ ne) ∧
      ∀ W, PSt W w0.heap.size gc gx gl bl gm gN ka kb σ' σ M → Below w0.heap.size w0 W → Calls Try.prog 49 #[.pointer (some ⟨gx, 0, none⟩), .int .i64 ver, .slice A l.length c, .pointer (some ⟨gm, 0, none⟩), t.val, .int .u64 x, .int .u64 y] W fun e w2 => e = .returned (.tuple #[.int .i64 I, .int .i64 E]) ∧ ∃ gN', PSt w2 w0.heap.size gc gx gl bl gm gN' ka kb σ' σ' M ∧ Below w0.heap.size w0 w2 ∧ Kp W w2 := by
  by_cases h0 : l.length = 0
  · rw [h0]
    refine (S.pick0 ver t x y).mono ?_
    rintro e w' ⟨rfl, h1, h2⟩
    refine ⟨0, 8, σ, rfl, h1, hb.trans h2.be, h2.kp, .inr rfl, ⟨R.ok.more (by omega), R.kin⟩, by omega, by omega, fun W S' hb' => ?_⟩
    refine (refpolpick_none _ ver A c t _ x y W).mono ?_
    rintro e w2 ⟨rfl, h3⟩
    have := S'.same h3
    exact ⟨rfl, gN, this.1, hb'.trans this.2.be, this.2.kp⟩
  · have h0 : 0 < l.length := by omega
    refine (S.pick R.ok hB ver t x y hx hy (hs.rd.below hb) hs.lw h0).mono ?_
    rintro e w' ⟨rfl, h1, h2⟩
    have hin := fun h => pickN_in (R.kin h) R.ok (hK h) (hs.kn h) ka kb t x y hx hy (M := M) hs.lw h0
    refine ⟨_, 0, _, rfl, h1, hb.trans h2.be, h2.kp, .inl rfl, ⟨R.ok.pick hB.1 ka kb ver hs.lw h0, fun h => (R.kin h).pick R.ok (hK h) (hs.kn h) ka kb hs.lw h0⟩, fun _ h => hasB_iff.2 (hin h), fun _ => ?_, fun W S' hb' => ?_⟩
    · by_cases h : ne
      · obtain ⟨b, hb, e⟩ := List.mem_map.1 (hin h)
        rw [← e]
        exact .inl (law_wf hs.lw b hb)
      · exact .inr h
    · refine (S'.rpick R.ok hB.2 hM ver t ht x y hx hy (hs.rd.below hb') hs.lw h0).mono ?_
      rintro e w2 ⟨rfl, gN', h3, h4⟩
      exact ⟨rfl, gN', h3, hb'.trans h4.be, h4.kp⟩
theorem rnd_set (hb : Below w0.heap.size w0 w) (S : PSt w w0.heap.size gc gx gl bl gm gN ka kb σ σ M) (R : Rnd ne K σ B) (k2 s2 : Int) (hs : polOk k2 s2 = true → s2 ≤ 251) :
    Calls Try.prog 47 #[.pointer (some ⟨gc, 0, none⟩), .agg #[.int .i64 k2, .int .i64 s2]] w fun e w' => ∃ E σ', e = .returned (.int .i64 E) ∧ PSt w' w0.heap.size gc gx gl bl gm gN ka kb σ' σ M ∧ Below w0.heap.size w0 w' ∧ Kp w w' ∧ Rnd ne K σ' (B + 1000000) ∧
      ∀ W, PSt W w0.heap.size gc gx gl bl gm gN ka kb σ' σ M → Below w0.heap.size w0 W → Calls Try.prog 48 #[.pointer (some ⟨gx, 0, none⟩), .agg #[.int .i64 k2, .int .i64 s2]] W fun e w2 => e = .returned (.int .i64 E) ∧ PSt w2 w0.heap.size gc gx gl bl gm gN ka kb σ' σ' M ∧ Below w0.heap.size w0 w2 ∧ Kp W w2 := by
  by_cases hp : polOk k2 s2 = true
  · refine (S.set k2 s2 hp).mono ?_
    rintro e w' ⟨rfl, h1, h2⟩
    refine ⟨0, _, rfl, h1, hb.trans h2.be, h2.kp, ⟨psok_set hp (hs hp) _, fun _ => psin_set _ _ _⟩, fun W S' hb' => ?_⟩
    refine (S'.rset k2 s2 hp).mono ?_
    rintro e w2 ⟨rfl, h3, h4⟩
    exact ⟨rfl, h3, hb'.trans h4.be, h4.kp⟩
  · have hp : polOk k2 s2 = false := by simpa using hp
    refine (S.setBad k2 s2 hp).mono ?_
    rintro e w' ⟨rfl, h1, h2⟩
    refine ⟨1, _, rfl, h1, hb.trans h2.be, h2.kp, ⟨R.ok.more (by omega), R.kin⟩, fun W S' hb' => ?_⟩
    refine (S'.rsetBad k2 s2 hp).mono ?_
    rintro e w2 ⟨rfl, h3, h4⟩
    exact ⟨rfl, h3, hb'.trans h4.be, h4.kp⟩
/-- Both loads grow. -/
theorem rnd_add (hb : Below w0.heap.size w0 w) (S : PSt w w0.heap.size gc gx gl bl gm gN ka kb σ σ M) (id : Int) (hk : (Lit.int .i64 id).wf = true) (hp : lmPos M) (hs : lmSorted M) (hl : M.length ≤ 1000) :
    Calls Try.prog 36 #[.pointer (some ⟨gl, 0, none⟩), .int .i64 id, .int .i64 1] w fun e w' => e = .returned (.tuple #[]) ∧ Below w0.heap.size w0 w' ∧
      Calls Try.prog 52 #[.pointer (some ⟨gm, 0, none⟩), .int .i64 id, .int .i64 1] w' fun e w2 => e = .returned (.tuple #[]) ∧ PSt w2 w0.heap.size gc gx gl bl gm gN ka kb σ σ (lmAdd M id 1) ∧ Below w0.heap.size w0 w2 := by
  have hB := S.hb
  refine (S.add id hk hp (by omega)).mono ?_
  rintro e w' ⟨rfl, ⟨k1, k2, k3, k4, k5, k6⟩, h2⟩
  refine ⟨rfl, hb.trans h2.be, (PSt.radd k1 k2 k3 rfl k4 k5 k6 ⟨hB.1, hB.2.1⟩ hs hp (by omega)).mono ?_⟩
  rintro e w2 ⟨rfl, h3, h4⟩
  exact ⟨rfl, h3, (hb.trans h2.be).trans h4.be⟩
end
end Go.Proofs.Ytkpkjpdhlmjchaa
