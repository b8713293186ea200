/- ring: the document's Share. -/
import Derived.Test.YtnmmjchhinfbpaaRingP
namespace Go.Proofs.Ytnmmjchhinfbpaa
open Go Go.RowKit Go.Deep

theorem u64w_sub (s a b : Int) : u64w (u64w (u64w s + a) - b) = u64w (s + (a - b)) := by
  unfold u64w
  omega
set_option maxRecDepth 100000 in
set_option maxHeartbeats 8000000 in
theorem refshare51 (P : List Pt) (A : Option Addr) (c : Nat) (id : Int) (w : World) (hr : Reads w w.heap.size 2 A P.length (P.flatMap qcell)) (h0 : 0 < P.length) (hl : P.length ≤ 65536) :
    Calls Try.prog 13 #[.slice A P.length c, .int .i64 id] w fun e w' => e = .returned (.int .u64 (u64w (dShN P id P.length))) ∧ Below w.heap.size w w' := by
  obtain ⟨r, hrr⟩ : ∃ r, u64w (dShN P id P.length) = r := ⟨_, rfl⟩
  rw [hrr]
  replace hrr := Lib.hid hrr
  have hst : ∀ k, dShN P id (k + 1) = dShN P id k + dShT P id k := fun _ => rfl
  have AT := fun n W (hb : Below w.heap.size w W) => refat51 P A c n W ((hr.below hb).more hb.size) h0 hl
  have AH := fun n W (hb : Below w.heap.size w W) => refahead51 P A c n W ((hr.below hb).more hb.size) hl
  have AG := fun i (hi : i < P.length) W (hb : Below w.heap.size w W) => refagain51 P A c i W ((hr.below hb).more hb.size) hi hl
  replace AT := Lib.hid AT
  replace AH := Lib.hid AH
  replace AG := Lib.hid AG
  replace hst := Lib.hid hst
  replace hr := Lib.hid hr
  go_enter Try.func13, Try.ntmps13
  go_wp2_with fail
  go_loopw [5, 6] (fun sm ix wr => ∃ k : Nat, k ≤ P.length ∧ ix = .int .i64 (k : Nat) ∧ sm = .int .u64 (u64w (dShN P id k)) ∧ Below w.heap.size w wr) (fun _ ix _ => P.length - (intOf ix).toNat)
  case atStart => exact ⟨0, by omega, rfl, rfl, Below.refl _ _⟩
  case round =>
    obtain ⟨k, hk, rfl, rfl, hb⟩ := hrel
    by_cases hlt : k < P.length
    · have hlti : (k : Int) < (P.length : Int) := by omega
      obtain ⟨ad, rfl, hbl, c0, c1⟩ := qt_at (hr.out.below hb) hlt
      have hs := hst.out k
      unfold dShT at hs
      have G := AG.out k hlt
      obtain ⟨t, ht⟩ : ∃ t, decide (P.getD k (0, 0) ∈ P.take k) = t := ⟨_, rfl⟩
      rw [ht] at G
      obtain ⟨xi, xa, hx⟩ : ∃ xi xa, P.getD k (0, 0) = (xi, xa) := ⟨_, _, rfl⟩
      rw [hx] at c0 c1 hs ht
      dsimp only at c0 c1 hs ht
      have F := AT.out xa
      have H := AH.out xa
      generalize (ownP P xa).1 = o at *
      generalize aheadV P xa = av at *
      have hw := u64w_sub (dShN P id k) xa av
      generalize dShN P id k = sk at *
      replace G := Lib.hid G
      replace F := Lib.hid F
      replace H := Lib.hid H
      replace hw := Lib.hid hw
      replace hx := Lib.hid hx
      have hbd : ∀ W, Below wr.heap.size wr W → Below w.heap.size w W := fun W h => below_chain h hb
      replace hbd := Lib.hid hbd
      by_cases h1 : o = xi
      · by_cases h2 : xi = id
        · cases t
          · rw [if_pos (⟨h1, h2, of_decide_eq_false ht⟩)] at hs
            replace hs := Lib.hid hs
            have n1 : (o != xi) = false := by simpa using h1
            have n2 : (xi != id) = false := by simpa using h2
            replace h1 := Lib.hid h1
            replace h2 := Lib.hid h2
            replace ht := Lib.hid ht
            go_wp2_with fail
            go_region_held3 (fun W => Below wr.heap.size wr W ∧ W.cell? (ad.add (k * 2)) = some (.int .u64 xa) ∧ W.cell? ⟨(ad.add (k * 2)).block, (ad.add (k * 2)).off + 1, none⟩ = some (.int .i64 xi)) ((first | assumption | ((refine ⟨?_, ?_⟩; (first | assumption | exact (Below.refl _ _).drew | exact Below.refl _ _); go_keep)))) (first
              | (go_at_call 14; (with_reducible refine (F.out _ (hbd.out _ (And.left (by assumption)))).mono ?_); rintro e w2 ⟨rfl, hb2⟩; have hS := hold2 (by assumption) hb2)
              | (go_at_call 40; (with_reducible refine (G.out _ (hbd.out _ (And.left (by assumption)))).mono ?_); rintro e w3 ⟨rfl, hb3⟩; have hS3 := hold2 (by assumption) hb3))
            all_goals
              obtain ⟨q0, q1, -⟩ := hS3
              have hb4 := hbd.out _ q0
              have hbd3 : ∀ W, Below w3.heap.size w3 W → Below w.heap.size w W := fun W h => below_chain h hb4
              replace hbd3 := Lib.hid hbd3
              clear hS hb2 hb3 c0 c1
              go_wp2_with fail
              go_region_held3 (fun W => Below w3.heap.size w3 W ∧ W.cell? (ad.add (k * 2)) = some (.int .u64 xa)) ((first | assumption | ((refine ⟨?_, ?_⟩; (first | assumption | exact (Below.refl _ _).drew | exact Below.refl _ _); go_keep)))) (first
                | (go_at_call 41; (with_reducible refine (H.out _ (hbd3.out _ (And.left (by assumption)))).mono ?_); rintro e w5 ⟨rfl, hb5⟩; have hS5 := hold1 (by assumption) hb5))
              all_goals
                have hbE := hbd3.out _ hS5.1
                go_wp2_with fail
                go_roundw
                case rel => exact ⟨k + 1, by omega, by go_num, by rw [wrap_u64w, wrap_u64w, hw.out, hs.out], hbE⟩
                case measure => simp [intOf]; omega
          · rw [if_neg (fun hh => hh.2.2 (of_decide_eq_true ht)), Int.add_zero] at hs
            replace hs := Lib.hid hs
            have n1 : (o != xi) = false := by simpa using h1
            have n2 : (xi != id) = false := by simpa using h2
            replace h1 := Lib.hid h1
            replace h2 := Lib.hid h2
            replace ht := Lib.hid ht
            go_wp2_with fail
            go_region_held3 (fun W => Below wr.heap.size wr W ∧ W.cell? (ad.add (k * 2)) = some (.int .u64 xa) ∧ W.cell? ⟨(ad.add (k * 2)).block, (ad.add (k * 2)).off + 1, none⟩ = some (.int .i64 xi)) ((first | assumption | ((refine ⟨?_, ?_⟩; (first | assumption | exact (Below.refl _ _).drew | exact Below.refl _ _); go_keep)))) (first
              | (go_at_call 14; (with_reducible refine (F.out _ (hbd.out _ (And.left (by assumption)))).mono ?_); rintro e w2 ⟨rfl, hb2⟩; have hS := hold2 (by assumption) hb2)
              | (go_at_call 40; (with_reducible refine (G.out _ (hbd.out _ (And.left (by assumption)))).mono ?_); rintro e w3 ⟨rfl, hb3⟩; have hS3 := hold2 (by assumption) hb3))
            all_goals
              have hbE := hbd.out _ hS3.1
              go_wp2_with fail
              go_roundw
              case rel => exact ⟨k + 1, by omega, by go_num, by rw [hs.out], hbE⟩
              case measure => simp [intOf]; omega
        · rw [if_neg (fun hh => h2 hh.2.1), Int.add_zero] at hs
          replace hs := Lib.hid hs
          have n1 : (o != xi) = false := by simpa using h1
          have n2 : (xi != id) = true := by simpa using h2
          replace h1 := Lib.hid h1
          replace h2 := Lib.hid h2
          replace ht := Lib.hid ht
          go_wp2_with fail
          refine wp_region_held_drew (S := fun W => Below wr.heap.size wr W ∧ W.cell? (ad.add (k * 2)) = some (.int .u64 xa) ∧ W.cell? ⟨(ad.add (k * 2)).block, (ad.add (k * 2)).off + 1, none⟩ = some (.int .i64 xi)) (by kernel_rfl) ?_ (fun hHeld => ?_)
          · exact ⟨(Below.refl _ _).drew, c0, c1⟩
          refine' wpAnyH_take (i := 0) (oi := { dst := some 13, op := Op.move (Operand.tmp 0), type := 38, pos := "ref.go:64", after := #[], guard := none }) (v := _) rfl (by kernel_rfl) (by kernel_rfl) (by kernel_rfl) (fun _ _ _ h => h) (Or.inl ⟨by rfl, ?_⟩) (by assumption) ?_
          rotate_left
          · ((intro w hSw; (try dsimp only at hSw); go_simp) <;> with_reducible rfl)
          simp only [Act.put, List.setIfInBounds_toArray, List.set_cons_zero, List.set_cons_succ]
          refine' wpAnyH_take (i := 1) (oi := { dst := some 14, op := Op.move (Operand.tmp 0), type := 38, pos := "ref.go:64", after := #[], guard := none }) (v := _) rfl (by kernel_rfl) (by kernel_rfl) (by kernel_rfl) (fun _ _ _ h => h) (Or.inl ⟨by rfl, ?_⟩) (by assumption) ?_
          rotate_left
          · ((intro w hSw; (try dsimp only at hSw); go_simp) <;> with_reducible rfl)
          simp only [Act.put, List.setIfInBounds_toArray, List.set_cons_zero, List.set_cons_succ]
          refine' wpAnyH_take (i := 2) (oi := { dst := some 15, op := Op.move (Operand.tmp 6), type := 3, pos := "ref.go:64", after := #[], guard := none }) (v := _) rfl (by kernel_rfl) (by kernel_rfl) (by kernel_rfl) (fun _ _ _ h => h) (Or.inl ⟨by rfl, ?_⟩) (by assumption) ?_
          rotate_left
          · ((intro w hSw; (try dsimp only at hSw); go_simp) <;> with_reducible rfl)
          simp only [Act.put, List.setIfInBounds_toArray, List.set_cons_zero, List.set_cons_succ]
          refine' wpAnyH_take (i := 3) (oi := { dst := some 16, op := Op.indexAddr 38 (Operand.tmp 14) (Operand.tmp 15), type := 0, pos := "ref.go:64", after := #[{ on := 1, ground := Ground.data }, { on := 2, ground := Ground.data }], guard := none }) (v := _) rfl (by kernel_rfl) (by kernel_rfl) (by kernel_rfl) (fun _ _ _ h => h) (Or.inl ⟨by rfl, ?_⟩) (by assumption) ?_
          rotate_left
          · ((intro w hSw; (try dsimp only at hSw); go_simp) <;> with_reducible rfl)
          simp only [Act.put, List.setIfInBounds_toArray, List.set_cons_zero, List.set_cons_succ]
          refine' wpAnyH_take (i := 4) (oi := { dst := some 17, op := Op.fieldAddr 88 (Operand.tmp 16) 0, type := 0, pos := "ref.go:64", after := #[{ on := 3, ground := Ground.data }], guard := none }) (v := _) rfl (by kernel_rfl) (by kernel_rfl) (by kernel_rfl) (fun _ _ _ h => h) (Or.inl ⟨by rfl, ?_⟩) (by assumption) ?_
          rotate_left
          · ((intro w hSw; (try dsimp only at hSw); go_simp) <;> with_reducible rfl)
          simp only [Act.put, List.setIfInBounds_toArray, List.set_cons_zero, List.set_cons_succ]
          refine' wpAnyH_take (i := 5) (oi := { dst := some 18, op := Op.load 23 (Operand.tmp 17), type := 23, pos := "ref.go:64", after := #[{ on := 4, ground := Ground.data }], guard := none }) (v := _) rfl (by kernel_rfl) (by kernel_rfl) (by kernel_rfl) (fun _ _ _ h => h) (Or.inl ⟨by rfl, ?_⟩) (by assumption) ?_
          rotate_left
          · ((intro w hSw; (try dsimp only at hSw); go_simp) <;> with_reducible rfl)
          simp only [Act.put, List.setIfInBounds_toArray, List.set_cons_zero, List.set_cons_succ]
          refine' wpAnyH_take (i := 7) (oi := { dst := some 20, op := Op.move (Operand.tmp 0), type := 38, pos := "ref.go:64", after := #[], guard := none }) (v := _) rfl (by kernel_rfl) (by kernel_rfl) (by kernel_rfl) (fun _ _ _ h => h) (Or.inl ⟨by rfl, ?_⟩) (by assumption) ?_
          rotate_left
          · ((intro w hSw; (try dsimp only at hSw); go_simp) <;> with_reducible rfl)
          simp only [Act.put, List.setIfInBounds_toArray, List.set_cons_zero, List.set_cons_succ]
          refine' wpAnyH_take (i := 8) (oi := { dst := some 21, op := Op.move (Operand.tmp 6), type := 3, pos := "ref.go:64", after := #[], guard := none }) (v := _) rfl (by kernel_rfl) (by kernel_rfl) (by kernel_rfl) (fun _ _ _ h => h) (Or.inl ⟨by rfl, ?_⟩) (by assumption) ?_
          rotate_left
          · ((intro w hSw; (try dsimp only at hSw); go_simp) <;> with_reducible rfl)
          simp only [Act.put, List.setIfInBounds_toArray, List.set_cons_zero, List.set_cons_succ]
          refine' wpAnyH_take (i := 9) (oi := { dst := some 22, op := Op.indexAddr 38 (Operand.tmp 20) (Operand.tmp 21), type := 0, pos := "ref.go:64", after := #[{ on := 7, ground := Ground.data }, { on := 8, ground := Ground.data }], guard := none }) (v := _) rfl (by kernel_rfl) (by kernel_rfl) (by kernel_rfl) (fun _ _ _ h => h) (Or.inl ⟨by rfl, ?_⟩) (by assumption) ?_
          rotate_left
          · ((intro w hSw; (try dsimp only at hSw); go_simp) <;> with_reducible rfl)
          simp only [Act.put, List.setIfInBounds_toArray, List.set_cons_zero, List.set_cons_succ]
          refine' wpAnyH_take (i := 10) (oi := { dst := some 23, op := Op.fieldAddr 88 (Operand.tmp 22) 1, type := 0, pos := "ref.go:64", after := #[{ on := 9, ground := Ground.data }], guard := none }) (v := _) rfl (by kernel_rfl) (by kernel_rfl) (by kernel_rfl) (fun _ _ _ h => h) (Or.inl ⟨by rfl, ?_⟩) (by assumption) ?_
          rotate_left
          · ((intro w hSw; (try dsimp only at hSw); go_simp) <;> with_reducible rfl)
          simp only [Act.put, List.setIfInBounds_toArray, List.set_cons_zero, List.set_cons_succ]
          refine' wpAnyH_take (i := 11) (oi := { dst := some 24, op := Op.load 3 (Operand.tmp 23), type := 3, pos := "ref.go:64", after := #[{ on := 10, ground := Ground.data }], guard := none }) (v := _) rfl (by kernel_rfl) (by kernel_rfl) (by kernel_rfl) (fun _ _ _ h => h) (Or.inl ⟨by rfl, ?_⟩) (by assumption) ?_
          rotate_left
          · ((intro w hSw; (try dsimp only at hSw); go_simp) <;> with_reducible rfl)
          simp only [Act.put, List.setIfInBounds_toArray, List.set_cons_zero, List.set_cons_succ]
          refine wpAnyH_ready (rs := [6]) (by kernel_rfl) (by simp) ?_
          refine AllReadyH.cons (o := { dst := some 19, op := Op.call { callee := Callee.value (Operand.func 14), args := #[Operand.tmp 13, Operand.tmp 18], argTypes := #[38, 23] }, type := 3, pos := "ref.go:64", after := #[{ on := 0, ground := Ground.data }, { on := 5, ground := Ground.data }], guard := none }) rfl (fun K hK => ?_) AllReadyH.nil
          go_simp
          go_at_call 14; (with_reducible refine (F.out _ (hbd.out _ (And.left (by assumption)))).mono ?_); rintro e w2 ⟨rfl, hb2⟩; have hS := hold2 (by assumption) hb2
          refine hK.out _ _ ?_ (fun hHeld => ?_)
          · exact hS
          clear hK K
          refine' wpAnyH_take (i := 12) (oi := { dst := some 25, op := Op.binOp BinOp.neq 3 (Operand.tmp 19) (Operand.tmp 24) 3, type := 4, pos := "ref.go:64", after := #[{ on := 6, ground := Ground.data }, { on := 11, ground := Ground.data }], guard := none }) (v := _) rfl (by kernel_rfl) (by kernel_rfl) (by kernel_rfl) (fun _ _ _ h => h) (Or.inl ⟨by rfl, ?_⟩) (by assumption) ?_
          rotate_left
          · ((intro w hSw; (try dsimp only at hSw); go_simp) <;> with_reducible rfl)
          simp only [Act.put, List.setIfInBounds_toArray, List.set_cons_zero, List.set_cons_succ]
          refine' wpAnyH_take (i := 13) (oi := { dst := some 26, op := Op.move (Operand.tmp 25), type := 4, pos := "ref.go:64", after := #[{ on := 12, ground := Ground.data }, { on := 6, ground := Ground.chain }], guard := none }) (v := _) rfl (by kernel_rfl) (by kernel_rfl) (by kernel_rfl) (fun _ _ _ h => h) (Or.inl ⟨by rfl, ?_⟩) (by assumption) ?_
          rotate_left
          · ((intro w hSw; (try dsimp only at hSw); go_simp) <;> with_reducible rfl)
          simp only [Act.put, List.setIfInBounds_toArray, List.set_cons_zero, List.set_cons_succ]
          refine' wpAnyH_take (i := 14) (oi := { dst := some 27, op := Op.move (Operand.tmp 0), type := 38, pos := "ref.go:64", after := #[{ on := 13, ground := Ground.guard }], guard := some (13, false) }) (v := _) rfl (by kernel_rfl) (by kernel_rfl) (by kernel_rfl) (fun _ _ _ h => h) (Or.inl ⟨by rfl, ?_⟩) (by assumption) ?_
          rotate_left
          · ((intro w hSw; (try dsimp only at hSw); go_simp) <;> with_reducible rfl)
          simp only [Act.put, List.setIfInBounds_toArray, List.set_cons_zero, List.set_cons_succ]
          refine' wpAnyH_take (i := 15) (oi := { dst := some 28, op := Op.move (Operand.tmp 6), type := 3, pos := "ref.go:64", after := #[{ on := 13, ground := Ground.guard }], guard := some (13, false) }) (v := _) rfl (by kernel_rfl) (by kernel_rfl) (by kernel_rfl) (fun _ _ _ h => h) (Or.inl ⟨by rfl, ?_⟩) (by assumption) ?_
          rotate_left
          · ((intro w hSw; (try dsimp only at hSw); go_simp) <;> with_reducible rfl)
          simp only [Act.put, List.setIfInBounds_toArray, List.set_cons_zero, List.set_cons_succ]
          refine' wpAnyH_take (i := 16) (oi := { dst := some 29, op := Op.indexAddr 38 (Operand.tmp 27) (Operand.tmp 28), type := 0, pos := "ref.go:64", after := #[{ on := 14, ground := Ground.data }, { on := 15, ground := Ground.data }, { on := 13, ground := Ground.guard }], guard := some (13, false) }) (v := _) rfl (by kernel_rfl) (by kernel_rfl) (by kernel_rfl) (fun _ _ _ h => h) (Or.inl ⟨by rfl, ?_⟩) (by assumption) ?_
          rotate_left
          · ((intro w hSw; (try dsimp only at hSw); go_simp) <;> with_reducible rfl)
          simp only [Act.put, List.setIfInBounds_toArray, List.set_cons_zero, List.set_cons_succ]
          refine' wpAnyH_take (i := 17) (oi := { dst := some 30, op := Op.fieldAddr 88 (Operand.tmp 29) 1, type := 0, pos := "ref.go:64", after := #[{ on := 16, ground := Ground.data }, { on := 13, ground := Ground.guard }], guard := some (13, false) }) (v := _) rfl (by kernel_rfl) (by kernel_rfl) (by kernel_rfl) (fun _ _ _ h => h) (Or.inl ⟨by rfl, ?_⟩) (by assumption) ?_
          rotate_left
          · ((intro w hSw; (try dsimp only at hSw); go_simp) <;> with_reducible rfl)
          simp only [Act.put, List.setIfInBounds_toArray, List.set_cons_zero, List.set_cons_succ]
          refine' wpAnyH_take (i := 18) (oi := { dst := some 31, op := Op.load 3 (Operand.tmp 30), type := 3, pos := "ref.go:64", after := #[{ on := 17, ground := Ground.data }, { on := 13, ground := Ground.guard }], guard := some (13, false) }) (v := _) rfl (by kernel_rfl) (by kernel_rfl) (by kernel_rfl) (fun _ _ _ h => h) (Or.inl ⟨by rfl, ?_⟩) (by assumption) ?_
          rotate_left
          · ((intro w hSw; (try dsimp only at hSw); go_simp) <;> with_reducible rfl)
          simp only [Act.put, List.setIfInBounds_toArray, List.set_cons_zero, List.set_cons_succ]
          refine' wpAnyH_take (i := 19) (oi := { dst := some 32, op := Op.move (Operand.tmp 1), type := 3, pos := "ref.go:64", after := #[{ on := 13, ground := Ground.guard }], guard := some (13, false) }) (v := _) rfl (by kernel_rfl) (by kernel_rfl) (by kernel_rfl) (fun _ _ _ h => h) (Or.inl ⟨by rfl, ?_⟩) (by assumption) ?_
          rotate_left
          · ((intro w hSw; (try dsimp only at hSw); go_simp) <;> with_reducible rfl)
          simp only [Act.put, List.setIfInBounds_toArray, List.set_cons_zero, List.set_cons_succ]
          refine' wpAnyH_take (i := 20) (oi := { dst := some 33, op := Op.binOp BinOp.neq 3 (Operand.tmp 31) (Operand.tmp 32) 3, type := 4, pos := "ref.go:64", after := #[{ on := 18, ground := Ground.data }, { on := 19, ground := Ground.data }, { on := 13, ground := Ground.guard }], guard := some (13, false) }) (v := _) rfl (by kernel_rfl) (by kernel_rfl) (by kernel_rfl) (fun _ _ _ h => h) (Or.inl ⟨by rfl, ?_⟩) (by assumption) ?_
          rotate_left
          · ((intro w hSw; (try dsimp only at hSw); go_simp) <;> with_reducible rfl)
          simp only [Act.put, List.setIfInBounds_toArray, List.set_cons_zero, List.set_cons_succ]
          refine' wpAnyH_take (i := 21) (oi := { dst := some 34, op := Op.pick (Operand.tmp 26) (Operand.const (Value.bool true)) (Operand.tmp 33), type := 4, pos := "ref.go:64", after := #[{ on := 13, ground := Ground.data }, { on := 20, ground := Ground.data }], guard := none }) (v := _) rfl (by kernel_rfl) (by kernel_rfl) (by kernel_rfl) (fun _ _ _ h => h) (Or.inl ⟨by rfl, ?_⟩) (by assumption) ?_
          rotate_left
          · ((intro w hSw; (try dsimp only at hSw); go_simp) <;> with_reducible rfl)
          simp only [Act.put, List.setIfInBounds_toArray, List.set_cons_zero, List.set_cons_succ]
          refine' wpAnyH_take (i := 22) (oi := { dst := some 35, op := Op.move (Operand.tmp 34), type := 4, pos := "ref.go:64", after := #[{ on := 21, ground := Ground.data }, { on := 13, ground := Ground.chain }], guard := none }) (v := _) rfl (by kernel_rfl) (by kernel_rfl) (by kernel_rfl) (fun _ _ _ h => h) (Or.inl ⟨by rfl, ?_⟩) (by assumption) ?_
          rotate_left
          · ((intro w hSw; (try dsimp only at hSw); go_simp) <;> with_reducible rfl)
          simp only [Act.put, List.setIfInBounds_toArray, List.set_cons_zero, List.set_cons_succ]
          refine' wpAnyH_take (i := 23) (oi := { dst := some 36, op := Op.move (Operand.tmp 0), type := 38, pos := "ref.go:64", after := #[{ on := 22, ground := Ground.guard }], guard := some (22, false) }) (v := undef) rfl (by kernel_rfl) (by kernel_rfl) (by kernel_rfl) (fun _ _ _ h => h) (Or.inr ⟨by rfl, rfl⟩) (by assumption) ?_
          simp only [Act.put, List.setIfInBounds_toArray, List.set_cons_zero, List.set_cons_succ]
          refine' wpAnyH_take (i := 24) (oi := { dst := some 37, op := Op.move (Operand.tmp 6), type := 3, pos := "ref.go:64", after := #[{ on := 22, ground := Ground.guard }], guard := some (22, false) }) (v := undef) rfl (by kernel_rfl) (by kernel_rfl) (by kernel_rfl) (fun _ _ _ h => h) (Or.inr ⟨by rfl, rfl⟩) (by assumption) ?_
          simp only [Act.put, List.setIfInBounds_toArray, List.set_cons_zero, List.set_cons_succ]
          refine' wpAnyH_take (i := 25) (oi := { dst := some 38, op := Op.call { callee := Callee.value (Operand.func 40), args := #[Operand.tmp 36, Operand.tmp 37], argTypes := #[38, 3] }, type := 4, pos := "ref.go:64", after := #[{ on := 23, ground := Ground.data }, { on := 24, ground := Ground.data }, { on := 22, ground := Ground.chain }, { on := 22, ground := Ground.guard }], guard := some (22, false) }) (v := undef) rfl (by kernel_rfl) (by kernel_rfl) (by kernel_rfl) (fun _ _ _ h => h) (Or.inr ⟨by rfl, rfl⟩) (by assumption) ?_
          simp only [Act.put, List.setIfInBounds_toArray, List.set_cons_zero, List.set_cons_succ]
          refine' wpAnyH_take (i := 26) (oi := { dst := some 39, op := Op.pick (Operand.tmp 35) (Operand.const (Value.bool true)) (Operand.tmp 38), type := 4, pos := "ref.go:64", after := #[{ on := 22, ground := Ground.data }, { on := 25, ground := Ground.data }], guard := none }) (v := _) rfl (by kernel_rfl) (by kernel_rfl) (by kernel_rfl) (fun _ _ _ h => h) (Or.inl ⟨by rfl, ?_⟩) (by assumption) ?_
          rotate_left
          · ((intro w hSw; (try dsimp only at hSw); go_simp) <;> with_reducible rfl)
          simp only [Act.put, List.setIfInBounds_toArray, List.set_cons_zero, List.set_cons_succ]
          refine wpAnyH_done (by kernel_rfl) ?_ _
          have hbE := hbd.out _ hS.1
          go_wp2_with fail
          go_roundw
          case rel => exact ⟨k + 1, by omega, by go_num, by rw [hs.out], hbE⟩
          case measure => simp [intOf]; omega
      · rw [if_neg (fun hh => h1 hh.1), Int.add_zero] at hs
        replace hs := Lib.hid hs
        have n1 : (o != xi) = true := by simpa using h1
        replace h1 := Lib.hid h1
        replace ht := Lib.hid ht
        go_wp2_with fail
        refine wp_region_held_drew (S := fun W => Below wr.heap.size wr W ∧ W.cell? (ad.add (k * 2)) = some (.int .u64 xa) ∧ W.cell? ⟨(ad.add (k * 2)).block, (ad.add (k * 2)).off + 1, none⟩ = some (.int .i64 xi)) (by kernel_rfl) ?_ (fun hHeld => ?_)
        · exact ⟨(Below.refl _ _).drew, c0, c1⟩
        refine' wpAnyH_take (i := 0) (oi := { dst := some 13, op := Op.move (Operand.tmp 0), type := 38, pos := "ref.go:64", after := #[], guard := none }) (v := _) rfl (by kernel_rfl) (by kernel_rfl) (by kernel_rfl) (fun _ _ _ h => h) (Or.inl ⟨by rfl, ?_⟩) (by assumption) ?_
        rotate_left
        · ((intro w hSw; (try dsimp only at hSw); go_simp) <;> with_reducible rfl)
        simp only [Act.put, List.setIfInBounds_toArray, List.set_cons_zero, List.set_cons_succ]
        refine' wpAnyH_take (i := 1) (oi := { dst := some 14, op := Op.move (Operand.tmp 0), type := 38, pos := "ref.go:64", after := #[], guard := none }) (v := _) rfl (by kernel_rfl) (by kernel_rfl) (by kernel_rfl) (fun _ _ _ h => h) (Or.inl ⟨by rfl, ?_⟩) (by assumption) ?_
        rotate_left
        · ((intro w hSw; (try dsimp only at hSw); go_simp) <;> with_reducible rfl)
        simp only [Act.put, List.setIfInBounds_toArray, List.set_cons_zero, List.set_cons_succ]
        refine' wpAnyH_take (i := 2) (oi := { dst := some 15, op := Op.move (Operand.tmp 6), type := 3, pos := "ref.go:64", after := #[], guard := none }) (v := _) rfl (by kernel_rfl) (by kernel_rfl) (by kernel_rfl) (fun _ _ _ h => h) (Or.inl ⟨by rfl, ?_⟩) (by assumption) ?_
        rotate_left
        · ((intro w hSw; (try dsimp only at hSw); go_simp) <;> with_reducible rfl)
        simp only [Act.put, List.setIfInBounds_toArray, List.set_cons_zero, List.set_cons_succ]
        refine' wpAnyH_take (i := 3) (oi := { dst := some 16, op := Op.indexAddr 38 (Operand.tmp 14) (Operand.tmp 15), type := 0, pos := "ref.go:64", after := #[{ on := 1, ground := Ground.data }, { on := 2, ground := Ground.data }], guard := none }) (v := _) rfl (by kernel_rfl) (by kernel_rfl) (by kernel_rfl) (fun _ _ _ h => h) (Or.inl ⟨by rfl, ?_⟩) (by assumption) ?_
        rotate_left
        · ((intro w hSw; (try dsimp only at hSw); go_simp) <;> with_reducible rfl)
        simp only [Act.put, List.setIfInBounds_toArray, List.set_cons_zero, List.set_cons_succ]
        refine' wpAnyH_take (i := 4) (oi := { dst := some 17, op := Op.fieldAddr 88 (Operand.tmp 16) 0, type := 0, pos := "ref.go:64", after := #[{ on := 3, ground := Ground.data }], guard := none }) (v := _) rfl (by kernel_rfl) (by kernel_rfl) (by kernel_rfl) (fun _ _ _ h => h) (Or.inl ⟨by rfl, ?_⟩) (by assumption) ?_
        rotate_left
        · ((intro w hSw; (try dsimp only at hSw); go_simp) <;> with_reducible rfl)
        simp only [Act.put, List.setIfInBounds_toArray, List.set_cons_zero, List.set_cons_succ]
        refine' wpAnyH_take (i := 5) (oi := { dst := some 18, op := Op.load 23 (Operand.tmp 17), type := 23, pos := "ref.go:64", after := #[{ on := 4, ground := Ground.data }], guard := none }) (v := _) rfl (by kernel_rfl) (by kernel_rfl) (by kernel_rfl) (fun _ _ _ h => h) (Or.inl ⟨by rfl, ?_⟩) (by assumption) ?_
        rotate_left
        · ((intro w hSw; (try dsimp only at hSw); go_simp) <;> with_reducible rfl)
        simp only [Act.put, List.setIfInBounds_toArray, List.set_cons_zero, List.set_cons_succ]
        refine' wpAnyH_take (i := 7) (oi := { dst := some 20, op := Op.move (Operand.tmp 0), type := 38, pos := "ref.go:64", after := #[], guard := none }) (v := _) rfl (by kernel_rfl) (by kernel_rfl) (by kernel_rfl) (fun _ _ _ h => h) (Or.inl ⟨by rfl, ?_⟩) (by assumption) ?_
        rotate_left
        · ((intro w hSw; (try dsimp only at hSw); go_simp) <;> with_reducible rfl)
        simp only [Act.put, List.setIfInBounds_toArray, List.set_cons_zero, List.set_cons_succ]
        refine' wpAnyH_take (i := 8) (oi := { dst := some 21, op := Op.move (Operand.tmp 6), type := 3, pos := "ref.go:64", after := #[], guard := none }) (v := _) rfl (by kernel_rfl) (by kernel_rfl) (by kernel_rfl) (fun _ _ _ h => h) (Or.inl ⟨by rfl, ?_⟩) (by assumption) ?_
        rotate_left
        · ((intro w hSw; (try dsimp only at hSw); go_simp) <;> with_reducible rfl)
        simp only [Act.put, List.setIfInBounds_toArray, List.set_cons_zero, List.set_cons_succ]
        refine' wpAnyH_take (i := 9) (oi := { dst := some 22, op := Op.indexAddr 38 (Operand.tmp 20) (Operand.tmp 21), type := 0, pos := "ref.go:64", after := #[{ on := 7, ground := Ground.data }, { on := 8, ground := Ground.data }], guard := none }) (v := _) rfl (by kernel_rfl) (by kernel_rfl) (by kernel_rfl) (fun _ _ _ h => h) (Or.inl ⟨by rfl, ?_⟩) (by assumption) ?_
        rotate_left
        · ((intro w hSw; (try dsimp only at hSw); go_simp) <;> with_reducible rfl)
        simp only [Act.put, List.setIfInBounds_toArray, List.set_cons_zero, List.set_cons_succ]
        refine' wpAnyH_take (i := 10) (oi := { dst := some 23, op := Op.fieldAddr 88 (Operand.tmp 22) 1, type := 0, pos := "ref.go:64", after := #[{ on := 9, ground := Ground.data }], guard := none }) (v := _) rfl (by kernel_rfl) (by kernel_rfl) (by kernel_rfl) (fun _ _ _ h => h) (Or.inl ⟨by rfl, ?_⟩) (by assumption) ?_
        rotate_left
        · ((intro w hSw; (try dsimp only at hSw); go_simp) <;> with_reducible rfl)
        simp only [Act.put, List.setIfInBounds_toArray, List.set_cons_zero, List.set_cons_succ]
        refine' wpAnyH_take (i := 11) (oi := { dst := some 24, op := Op.load 3 (Operand.tmp 23), type := 3, pos := "ref.go:64", after := #[{ on := 10, ground := Ground.data }], guard := none }) (v := _) rfl (by kernel_rfl) (by kernel_rfl) (by kernel_rfl) (fun _ _ _ h => h) (Or.inl ⟨by rfl, ?_⟩) (by assumption) ?_
        rotate_left
        · ((intro w hSw; (try dsimp only at hSw); go_simp) <;> with_reducible rfl)
        simp only [Act.put, List.setIfInBounds_toArray, List.set_cons_zero, List.set_cons_succ]
        refine wpAnyH_ready (rs := [6]) (by kernel_rfl) (by simp) ?_
        refine AllReadyH.cons (o := { dst := some 19, op := Op.call { callee := Callee.value (Operand.func 14), args := #[Operand.tmp 13, Operand.tmp 18], argTypes := #[38, 23] }, type := 3, pos := "ref.go:64", after := #[{ on := 0, ground := Ground.data }, { on := 5, ground := Ground.data }], guard := none }) rfl (fun K hK => ?_) AllReadyH.nil
        go_simp
        go_at_call 14; (with_reducible refine (F.out _ (hbd.out _ (And.left (by assumption)))).mono ?_); rintro e w2 ⟨rfl, hb2⟩; have hS := hold2 (by assumption) hb2
        refine hK.out _ _ ?_ (fun hHeld => ?_)
        · exact hS
        clear hK K
        refine' wpAnyH_take (i := 12) (oi := { dst := some 25, op := Op.binOp BinOp.neq 3 (Operand.tmp 19) (Operand.tmp 24) 3, type := 4, pos := "ref.go:64", after := #[{ on := 6, ground := Ground.data }, { on := 11, ground := Ground.data }], guard := none }) (v := _) rfl (by kernel_rfl) (by kernel_rfl) (by kernel_rfl) (fun _ _ _ h => h) (Or.inl ⟨by rfl, ?_⟩) (by assumption) ?_
        rotate_left
        · ((intro w hSw; (try dsimp only at hSw); go_simp) <;> with_reducible rfl)
        simp only [Act.put, List.setIfInBounds_toArray, List.set_cons_zero, List.set_cons_succ]
        refine' wpAnyH_take (i := 13) (oi := { dst := some 26, op := Op.move (Operand.tmp 25), type := 4, pos := "ref.go:64", after := #[{ on := 12, ground := Ground.data }, { on := 6, ground := Ground.chain }], guard := none }) (v := _) rfl (by kernel_rfl) (by kernel_rfl) (by kernel_rfl) (fun _ _ _ h => h) (Or.inl ⟨by rfl, ?_⟩) (by assumption) ?_
        rotate_left
        · ((intro w hSw; (try dsimp only at hSw); go_simp) <;> with_reducible rfl)
        simp only [Act.put, List.setIfInBounds_toArray, List.set_cons_zero, List.set_cons_succ]
        refine' wpAnyH_take (i := 14) (oi := { dst := some 27, op := Op.move (Operand.tmp 0), type := 38, pos := "ref.go:64", after := #[{ on := 13, ground := Ground.guard }], guard := some (13, false) }) (v := undef) rfl (by kernel_rfl) (by kernel_rfl) (by kernel_rfl) (fun _ _ _ h => h) (Or.inr ⟨by rfl, rfl⟩) (by assumption) ?_
        simp only [Act.put, List.setIfInBounds_toArray, List.set_cons_zero, List.set_cons_succ]
        refine' wpAnyH_take (i := 15) (oi := { dst := some 28, op := Op.move (Operand.tmp 6), type := 3, pos := "ref.go:64", after := #[{ on := 13, ground := Ground.guard }], guard := some (13, false) }) (v := undef) rfl (by kernel_rfl) (by kernel_rfl) (by kernel_rfl) (fun _ _ _ h => h) (Or.inr ⟨by rfl, rfl⟩) (by assumption) ?_
        simp only [Act.put, List.setIfInBounds_toArray, List.set_cons_zero, List.set_cons_succ]
        refine' wpAnyH_take (i := 16) (oi := { dst := some 29, op := Op.indexAddr 38 (Operand.tmp 27) (Operand.tmp 28), type := 0, pos := "ref.go:64", after := #[{ on := 14, ground := Ground.data }, { on := 15, ground := Ground.data }, { on := 13, ground := Ground.guard }], guard := some (13, false) }) (v := undef) rfl (by kernel_rfl) (by kernel_rfl) (by kernel_rfl) (fun _ _ _ h => h) (Or.inr ⟨by rfl, rfl⟩) (by assumption) ?_
        simp only [Act.put, List.setIfInBounds_toArray, List.set_cons_zero, List.set_cons_succ]
        refine' wpAnyH_take (i := 17) (oi := { dst := some 30, op := Op.fieldAddr 88 (Operand.tmp 29) 1, type := 0, pos := "ref.go:64", after := #[{ on := 16, ground := Ground.data }, { on := 13, ground := Ground.guard }], guard := some (13, false) }) (v := undef) rfl (by kernel_rfl) (by kernel_rfl) (by kernel_rfl) (fun _ _ _ h => h) (Or.inr ⟨by rfl, rfl⟩) (by assumption) ?_
        simp only [Act.put, List.setIfInBounds_toArray, List.set_cons_zero, List.set_cons_succ]
        refine' wpAnyH_take (i := 18) (oi := { dst := some 31, op := Op.load 3 (Operand.tmp 30), type := 3, pos := "ref.go:64", after := #[{ on := 17, ground := Ground.data }, { on := 13, ground := Ground.guard }], guard := some (13, false) }) (v := undef) rfl (by kernel_rfl) (by kernel_rfl) (by kernel_rfl) (fun _ _ _ h => h) (Or.inr ⟨by rfl, rfl⟩) (by assumption) ?_
        simp only [Act.put, List.setIfInBounds_toArray, List.set_cons_zero, List.set_cons_succ]
        refine' wpAnyH_take (i := 19) (oi := { dst := some 32, op := Op.move (Operand.tmp 1), type := 3, pos := "ref.go:64", after := #[{ on := 13, ground := Ground.guard }], guard := some (13, false) }) (v := undef) rfl (by kernel_rfl) (by kernel_rfl) (by kernel_rfl) (fun _ _ _ h => h) (Or.inr ⟨by rfl, rfl⟩) (by assumption) ?_
        simp only [Act.put, List.setIfInBounds_toArray, List.set_cons_zero, List.set_cons_succ]
        refine' wpAnyH_take (i := 20) (oi := { dst := some 33, op := Op.binOp BinOp.neq 3 (Operand.tmp 31) (Operand.tmp 32) 3, type := 4, pos := "ref.go:64", after := #[{ on := 18, ground := Ground.data }, { on := 19, ground := Ground.data }, { on := 13, ground := Ground.guard }], guard := some (13, false) }) (v := undef) rfl (by kernel_rfl) (by kernel_rfl) (by kernel_rfl) (fun _ _ _ h => h) (Or.inr ⟨by rfl, rfl⟩) (by assumption) ?_
        simp only [Act.put, List.setIfInBounds_toArray, List.set_cons_zero, List.set_cons_succ]
        refine' wpAnyH_take (i := 21) (oi := { dst := some 34, op := Op.pick (Operand.tmp 26) (Operand.const (Value.bool true)) (Operand.tmp 33), type := 4, pos := "ref.go:64", after := #[{ on := 13, ground := Ground.data }, { on := 20, ground := Ground.data }], guard := none }) (v := _) rfl (by kernel_rfl) (by kernel_rfl) (by kernel_rfl) (fun _ _ _ h => h) (Or.inl ⟨by rfl, ?_⟩) (by assumption) ?_
        rotate_left
        · ((intro w hSw; (try dsimp only at hSw); go_simp) <;> with_reducible rfl)
        simp only [Act.put, List.setIfInBounds_toArray, List.set_cons_zero, List.set_cons_succ]
        refine' wpAnyH_take (i := 22) (oi := { dst := some 35, op := Op.move (Operand.tmp 34), type := 4, pos := "ref.go:64", after := #[{ on := 21, ground := Ground.data }, { on := 13, ground := Ground.chain }], guard := none }) (v := _) rfl (by kernel_rfl) (by kernel_rfl) (by kernel_rfl) (fun _ _ _ h => h) (Or.inl ⟨by rfl, ?_⟩) (by assumption) ?_
        rotate_left
        · ((intro w hSw; (try dsimp only at hSw); go_simp) <;> with_reducible rfl)
        simp only [Act.put, List.setIfInBounds_toArray, List.set_cons_zero, List.set_cons_succ]
        refine' wpAnyH_take (i := 23) (oi := { dst := some 36, op := Op.move (Operand.tmp 0), type := 38, pos := "ref.go:64", after := #[{ on := 22, ground := Ground.guard }], guard := some (22, false) }) (v := undef) rfl (by kernel_rfl) (by kernel_rfl) (by kernel_rfl) (fun _ _ _ h => h) (Or.inr ⟨by rfl, rfl⟩) (by assumption) ?_
        simp only [Act.put, List.setIfInBounds_toArray, List.set_cons_zero, List.set_cons_succ]
        refine' wpAnyH_take (i := 24) (oi := { dst := some 37, op := Op.move (Operand.tmp 6), type := 3, pos := "ref.go:64", after := #[{ on := 22, ground := Ground.guard }], guard := some (22, false) }) (v := undef) rfl (by kernel_rfl) (by kernel_rfl) (by kernel_rfl) (fun _ _ _ h => h) (Or.inr ⟨by rfl, rfl⟩) (by assumption) ?_
        simp only [Act.put, List.setIfInBounds_toArray, List.set_cons_zero, List.set_cons_succ]
        refine' wpAnyH_take (i := 25) (oi := { dst := some 38, op := Op.call { callee := Callee.value (Operand.func 40), args := #[Operand.tmp 36, Operand.tmp 37], argTypes := #[38, 3] }, type := 4, pos := "ref.go:64", after := #[{ on := 23, ground := Ground.data }, { on := 24, ground := Ground.data }, { on := 22, ground := Ground.chain }, { on := 22, ground := Ground.guard }], guard := some (22, false) }) (v := undef) rfl (by kernel_rfl) (by kernel_rfl) (by kernel_rfl) (fun _ _ _ h => h) (Or.inr ⟨by rfl, rfl⟩) (by assumption) ?_
        simp only [Act.put, List.setIfInBounds_toArray, List.set_cons_zero, List.set_cons_succ]
        refine' wpAnyH_take (i := 26) (oi := { dst := some 39, op := Op.pick (Operand.tmp 35) (Operand.const (Value.bool true)) (Operand.tmp 38), type := 4, pos := "ref.go:64", after := #[{ on := 22, ground := Ground.data }, { on := 25, ground := Ground.data }], guard := none }) (v := _) rfl (by kernel_rfl) (by kernel_rfl) (by kernel_rfl) (fun _ _ _ h => h) (Or.inl ⟨by rfl, ?_⟩) (by assumption) ?_
        rotate_left
        · ((intro w hSw; (try dsimp only at hSw); go_simp) <;> with_reducible rfl)
        simp only [Act.put, List.setIfInBounds_toArray, List.set_cons_zero, List.set_cons_succ]
        refine wpAnyH_done (by kernel_rfl) ?_ _
        have hbE := hbd.out _ hS.1
        go_wp2_with fail
        go_roundw
        case rel => exact ⟨k + 1, by omega, by go_num, by rw [hs.out], hbE⟩
        case measure => simp [intOf]; omega
    · obtain rfl : k = P.length := by omega
      have hlti : ¬ (P.length : Int) < (P.length : Int) := by omega
      rw [hrr.out]
      go_wp2_with fail
      go_ret
      exact ⟨rfl, hb⟩
end Go.Proofs.Ytnmmjchhinfbpaa
