/- audit.Check, told by what is answered to it (no plane in sight). -/
import Derived.Test.YtohapcacckapoaaGreatJ14
import Derived.Test.YtohapcacckapoaaGreatJ4
namespace Go.Proofs.YtohapcacckapoaaGreat
open Go Go.RowKit Go.Deep
theorem put_at {w : World} {g : Nat} {t : TypeId} {cs : Array Value} (h : Blk w g t cs) (i : Nat) (v : Value) : Blk (w.setCell ⟨g, i, none⟩ v) g t (cs.setIfInBounds i v) := by
 unfold Blk at h ⊢
 simp [World.setCell, Array.getElem?_modify, h]
theorem put_off {w : World} {g b : Nat} {t : TypeId} {cs : Array Value} (h : Blk w g t cs) (hb : ¬ b = g) (i : Nat) (v : Value) : Blk (w.setCell ⟨b, i, none⟩ v) g t cs := by
 unfold Blk at h ⊢
 simp [World.setCell, Array.getElem?_modify, h, hb]
def oL (r : Bool) (j : Nat) : List Int := if r && decide (5 ≤ j) then [5] else []
set_option maxRecDepth 100000 in
set_option maxHeartbeats 64000000 in
theorem check_core (w : World) (g : Nat) (p a b : Int)
  (LV : ∀ W, Below w.heap.size w W → Calls Tryz.prog 22 #[.pointer (some ⟨g, 0, none⟩)] W fun e w' => ∃ (A : Option Addr) (d : Nat), e = .returned (.slice A 0 d) ∧ Below W.heap.size W w')
  (LS : ∀ W, Below w.heap.size w W → Calls Tryz.prog 23 #[.pointer (some ⟨g, 0, none⟩)] W fun e w' => e = .returned (.slice none 0 0) ∧ Below W.heap.size W w')
  (EN : ∀ (A : Option Addr) (d : Nat) W, Below w.heap.size w W → Calls Tryz.prog 25 #[.slice A 0 d] W fun e w' => e = .returned (.bool false) ∧ Below W.heap.size W w')
  (ST : ∀ (A : Option Addr) (d : Nat) W, Below w.heap.size w W → Calls Tryz.prog 27 #[.slice A 0 d, .slice none 0 0] W fun e w' => e = .returned (.bool false) ∧ Below W.heap.size W w')
  (TW : ∀ (A : Option Addr) (d : Nat) W, Below w.heap.size w W → Calls Tryz.prog 29 #[.pointer (some ⟨g, 0, none⟩), .slice A 0 d] W fun e w' => e = .returned (.bool false) ∧ Below W.heap.size W w')
  (LD : ∀ W, Below w.heap.size w W → Calls Tryz.prog 31 #[.pointer (some ⟨g, 0, none⟩), .slice none 0 0] W fun e w' => e = .returned (.bool false) ∧ Below W.heap.size W w')
  (r : Bool) (SL : ∀ (A : Option Addr) (d : Nat) W, Below w.heap.size w W → Calls Tryz.prog 33 #[.pointer (some ⟨g, 0, none⟩), .agg #[.int .i64 p, .int .i64 a, .int .i64 b, .bool true], .slice A 0 d] W fun e w' => e = .returned (.bool r) ∧ Below W.heap.size W w')
  (OR : ∀ W, Below w.heap.size w W → Calls Tryz.prog 35 #[.slice none 0 0] W fun e w' => e = .returned (.bool false) ∧ Below W.heap.size W w')
  (BV : Value) (BD : ∀ W, Below w.heap.size w W → Calls Tryz.prog 38 #[.pointer (some ⟨g, 0, none⟩)] W fun e w' => e = .returned BV ∧ Below W.heap.size W w')
  (BO : ∀ W, Below w.heap.size w W → Calls Tryz.prog 37 #[BV] W fun e w' => e = .returned (.bool false) ∧ Below W.heap.size W w') :
  Calls Tryz.prog 9 #[.pointer (some ⟨g, 0, none⟩), .agg #[.int .i64 p, .int .i64 a, .int .i64 b, .bool true]] w fun e w' => ∃ B k, e = .returned (.slice B (oL r 7).length k) ∧ OwnI w' w.heap.size B k (oL r 7) ∧ Below w.heap.size w w' := by
 have hmf : ∀ (fn : Fn) (first cap : Array Value) (w : World), (Instr.makeFunc fn first cap).run Tryz.prog w = .ok (.func fn first cap) w := fun _ _ _ _ => rfl
 obtain ⟨w1, hw1⟩ : ∃ w1, w1 = (w.alloc (.cells #[.pointer (some ⟨g, 0, none⟩)] 41)).alloc (.cells #[.int .i64 p, .int .i64 a, .int .i64 b, .bool true] 54) := ⟨_, rfl⟩
 have hb1 : Below w.heap.size w w1 := hw1 ▸ below_alloc (below_alloc (Below.refl _ _) _) _
 have hp1 : Blk w1 w.heap.size 41 #[.pointer (some ⟨g, 0, none⟩)] := by rw [hw1]; exact (Blk.new w 41 _).alloc _
 have hs1 : Blk w1 (w.heap.size + 1) 54 #[.int .i64 p, .int .i64 a, .int .i64 b, .bool true] := by
  rw [hw1]
  have := Blk.new (w.alloc (.cells #[.pointer (some ⟨g, 0, none⟩)] 41)) 54 #[.int .i64 p, .int .i64 a, .int .i64 b, .bool true]
  rw [show (w.alloc (.cells #[.pointer (some ⟨g, 0, none⟩)] 41)).heap.size = w.heap.size + 1 by simp] at this
  exact this
 have c0 : w1.cell? ⟨w.heap.size, 0, none⟩ = some (.pointer (some ⟨g, 0, none⟩)) := hp1.cell 0
 have hC := Lib.hid fun W (hb : Below w1.heap.size w1 W) => (show W.cell? ⟨w.heap.size, 0, none⟩ = some (.pointer (some ⟨g, 0, none⟩)) from (hp1.call hb).cell 0)
 replace LV := Lib.hid LV
 replace LS := Lib.hid LS
 replace hb1 := Lib.hid hb1
 have hbD := (Below.refl w1.heap.size w1).drew
 replace hp1 := Lib.hid hp1
 replace hs1 := Lib.hid hs1
 go_enter Tryz.func9, Tryz.ntmps9
 go_upto_region 1 with fail
 rw [← hw1]
 clear hw1
 go_upto_region 3 with fail
 clear c0
 refine wp_region_held_drew (S := fun W => Below w1.heap.size w1 W ∧ W.cell? ⟨w.heap.size, 0, none⟩ = some (.pointer (some ⟨g, 0, none⟩))) (by kernel_rfl) ⟨hbD, hC.out _ hbD⟩ (fun hH => ?_)
 generalize w1.drew = wd0 at *
 refine' tk 0 rfl rfl ?_ ?_; rotate_left; · ((intro w hSw; (try dsimp only at hSw); go_simp) <;> with_reducible rfl); try go_frame
 refine' tk 2 rfl rfl ?_ ?_; rotate_left; · ((intro w hSw; (try dsimp only at hSw); go_simp) <;> with_reducible rfl); try go_frame
 refine wpAnyH_ready (rs := [1, 4, 5]) (by kernel_rfl) (by simp) ?_
 refine consH rfl (fun K hK => ?_) ?_
 ·
  go_simp
  (go_at_call 22; (with_reducible refine (LV.out _ (below_chain hH.1 hb1.out)).mono ?_))
  rintro e v10 ⟨A, d, rfl, hb10⟩
  have hbS10 := below_chain hb10 hH.1
  refine hK.out _ _ ⟨hbS10, hC.out _ hbS10⟩ (fun hH10 => ?_)
  clear hK K
  try go_frame
  refine wpAnyH_ready (rs := [3, 4, 5]) (by kernel_rfl) (by simp) ?_
  refine consH rfl (fun K hK => ?_) ?_
  ·
   go_simp
   (go_at_call 23; (with_reducible refine (LS.out _ (below_chain hH10.1 hb1.out)).mono ?_))
   rintro e v11 ⟨rfl, hb11⟩
   have hbS11 := below_chain hb11 hH10.1
   refine hK.out _ _ ⟨hbS11, hC.out _ hbS11⟩ (fun hH11 => ?_)
   clear hK K
   try go_frame
   refine wpAnyH_ready (rs := [4, 5]) (by kernel_rfl) (by simp) ?_
   refine consH rfl (fun K hK => ?_) ?_
   ·
    go_simp
    have hbA12 : Below v11.heap.size v11 (v11.alloc (.cells #[.slice none 0 0] 76)) := below_alloc (Below.refl _ _) _
    have hL12 : Blk (v11.alloc (.cells #[.slice none 0 0] 76)) v11.heap.size 76 #[.slice none 0 0] := Blk.new v11 76 #[.slice none 0 0]
    have gbl12 : w1.heap.size ≤ v11.heap.size := hH11.1.size
    have hbS12 := below_chain hbA12 hH11.1
    refine hK.out _ _ ⟨hbS12, hC.out _ hbS12⟩ (fun hH12 => ?_)
    clear hK K
    try go_frame
    generalize v11.alloc (.cells #[.slice none 0 0] 76) = v12 at *
    refine wpAnyH_ready (rs := [5]) (by kernel_rfl) (by simp) ?_
    refine consH rfl (fun K hK => ?_) AllReadyH.nil
    go_simp
    have hbA13 : Below v12.heap.size v12 (v12.alloc (.cells #[.slice none 0 0] 78)) := below_alloc (Below.refl _ _) _
    have hB13 : Blk (v12.alloc (.cells #[.slice none 0 0] 78)) v12.heap.size 78 #[.slice none 0 0] := Blk.new v12 78 #[.slice none 0 0]
    have gba13 : w1.heap.size ≤ v12.heap.size := hH12.1.size
    have hL13 := Blk.call hL12 hbA13
    have hne : ¬ v11.heap.size = v12.heap.size := Nat.ne_of_lt (Blk.lt hL12)
    have hbS13 := below_chain hbA13 hH12.1
    refine hK.out _ _ ⟨hbS13, hC.out _ hbS13⟩ (fun hH13 => ?_)
    clear hK K
    try go_frame
    generalize v12.alloc (.cells #[.slice none 0 0] 78) = v13 at *
    refine wpAnyH_ready (rs := [6]) (by kernel_rfl) (by simp) ?_
    refine consH rfl (fun K hK => ?_) AllReadyH.nil
    have z14 : v13.cell? ⟨v11.heap.size, 0, none⟩ = some (.slice none 0 0) := Blk.cell hL13 0
    have y14 : v13.frozen? ⟨v11.heap.size, 0, none⟩ = false := Blk.frozen hL13 0
    go_simp
    have hL14 := put_at hL13 0 (.slice A 0 d)
    have hB14 := put_off hB13 hne 0 (.slice A 0 d)
    have hbS14 : Below w1.heap.size w1 (v13.setCell ⟨v11.heap.size, 0, none⟩ (.slice A 0 d)) := Below.setCell hH13.1 gbl12 _
    refine hK.out _ _ ⟨hbS14, hC.out _ hbS14⟩ (fun hH14 => ?_)
    clear hK K z14 y14
    try go_frame
    generalize v13.setCell ⟨v11.heap.size, 0, none⟩ (.slice A 0 d) = v14 at *
    refine wpAnyH_ready (rs := [7]) (by kernel_rfl) (by simp) ?_
    refine consH rfl (fun K hK => ?_) AllReadyH.nil
    have z15 : v14.cell? ⟨v12.heap.size, 0, none⟩ = some (.slice none 0 0) := Blk.cell hB14 0
    have y15 : v14.frozen? ⟨v12.heap.size, 0, none⟩ = false := Blk.frozen hB14 0
    go_simp
    have hB15 := put_at hB14 0 (.slice none 0 0)
    have hL15 := put_off hL14 (fun h => hne h.symm) 0 (.slice none 0 0)
    have hbS15 : Below w1.heap.size w1 (v14.setCell ⟨v12.heap.size, 0, none⟩ (.slice none 0 0)) := Below.setCell hH14.1 gba13 _
    refine hK.out _ _ ⟨hbS15, hC.out _ hbS15⟩ (fun hH15 => ?_)
    clear hK K z15 y15
    try go_frame
    generalize v14.setCell ⟨v12.heap.size, 0, none⟩ (.slice none 0 0) = v15 at *
    refine wpAnyH_done (by kernel_rfl) ?_ _
    obtain ⟨bl, hbl⟩ : ∃ b, v11.heap.size = b := ⟨_, rfl⟩
    obtain ⟨ba, hba⟩ : ∃ b, v12.heap.size = b := ⟨_, rfl⟩
    have hLf := hL15
    have hBf := hB15
    have hbf := hH15.1
    rw [hbl] at hLf
    rw [hba] at hBf
    rw [hbl, hba]
    clear hL15 hB15
    go_wp2_with fail
    have K7 : Blk (v15.alloc (.cells #[.func (.func 24) #[] #[.pointer (some ⟨bl, 0, none⟩)], .func (.func 26) #[] #[.pointer (some ⟨bl, 0, none⟩), .pointer (some ⟨ba, 0, none⟩)], .func (.func 28) #[] #[.pointer (some ⟨w.heap.size, 0, none⟩), .pointer (some ⟨bl, 0, none⟩)], .func (.func 30) #[] #[.pointer (some ⟨w.heap.size + 1, 0, none⟩), .pointer (some ⟨w.heap.size, 0, none⟩), .pointer (some ⟨ba, 0, none⟩)], .func (.func 32) #[] #[.pointer (some ⟨w.heap.size + 1, 0, none⟩), .pointer (some ⟨w.heap.size, 0, none⟩), .pointer (some ⟨bl, 0, none⟩)], .func (.func 34) #[] #[.pointer (some ⟨ba, 0, none⟩)], .func (.func 36) #[] #[.pointer (some ⟨w.heap.size, 0, none⟩)]] 40)) v15.heap.size 40 #[.func (.func 24) #[] #[.pointer (some ⟨bl, 0, none⟩)], .func (.func 26) #[] #[.pointer (some ⟨bl, 0, none⟩), .pointer (some ⟨ba, 0, none⟩)], .func (.func 28) #[] #[.pointer (some ⟨w.heap.size, 0, none⟩), .pointer (some ⟨bl, 0, none⟩)], .func (.func 30) #[] #[.pointer (some ⟨w.heap.size + 1, 0, none⟩), .pointer (some ⟨w.heap.size, 0, none⟩), .pointer (some ⟨ba, 0, none⟩)], .func (.func 32) #[] #[.pointer (some ⟨w.heap.size + 1, 0, none⟩), .pointer (some ⟨w.heap.size, 0, none⟩), .pointer (some ⟨bl, 0, none⟩)], .func (.func 34) #[] #[.pointer (some ⟨ba, 0, none⟩)], .func (.func 36) #[] #[.pointer (some ⟨w.heap.size, 0, none⟩)]] := Blk.new v15 40 _
    have hA7 : Below v15.heap.size v15 (v15.alloc (.cells #[.func (.func 24) #[] #[.pointer (some ⟨bl, 0, none⟩)], .func (.func 26) #[] #[.pointer (some ⟨bl, 0, none⟩), .pointer (some ⟨ba, 0, none⟩)], .func (.func 28) #[] #[.pointer (some ⟨w.heap.size, 0, none⟩), .pointer (some ⟨bl, 0, none⟩)], .func (.func 30) #[] #[.pointer (some ⟨w.heap.size + 1, 0, none⟩), .pointer (some ⟨w.heap.size, 0, none⟩), .pointer (some ⟨ba, 0, none⟩)], .func (.func 32) #[] #[.pointer (some ⟨w.heap.size + 1, 0, none⟩), .pointer (some ⟨w.heap.size, 0, none⟩), .pointer (some ⟨bl, 0, none⟩)], .func (.func 34) #[] #[.pointer (some ⟨ba, 0, none⟩)], .func (.func 36) #[] #[.pointer (some ⟨w.heap.size, 0, none⟩)]] 40)) := below_alloc (Below.refl _ _) _
    have hL7 := Blk.call hLf hA7
    have hB7 := Blk.call hBf hA7
    have hb7 := below_chain hA7 hbf
    generalize v15.alloc (.cells #[.func (.func 24) #[] #[.pointer (some ⟨bl, 0, none⟩)], .func (.func 26) #[] #[.pointer (some ⟨bl, 0, none⟩), .pointer (some ⟨ba, 0, none⟩)], .func (.func 28) #[] #[.pointer (some ⟨w.heap.size, 0, none⟩), .pointer (some ⟨bl, 0, none⟩)], .func (.func 30) #[] #[.pointer (some ⟨w.heap.size + 1, 0, none⟩), .pointer (some ⟨w.heap.size, 0, none⟩), .pointer (some ⟨ba, 0, none⟩)], .func (.func 32) #[] #[.pointer (some ⟨w.heap.size + 1, 0, none⟩), .pointer (some ⟨w.heap.size, 0, none⟩), .pointer (some ⟨bl, 0, none⟩)], .func (.func 34) #[] #[.pointer (some ⟨ba, 0, none⟩)], .func (.func 36) #[] #[.pointer (some ⟨w.heap.size, 0, none⟩)]] 40) = W0 at *
    obtain ⟨gs, hgs⟩ : ∃ g, v15.heap.size = g := ⟨_, rfl⟩
    rw [hgs] at K7
    rw [hgs]
    have hp7 := Blk.call hp1.out hb7
    have hs7 := Blk.call hs1.out hb7
    have hbW := below_chain hb7 hb1.out
    have hszW := hbW.size
    clear hLf hBf hbf hA7 hb7
    go_loopw [8, 27] (fun s i wr => ∃ (j : Nat) (B : Option Addr) (k : Nat), j ≤ 7 ∧ i = .int .i64 (j : Nat) ∧ s = .slice B (oL r j).length k ∧ OwnI wr W0.heap.size B k (oL r j) ∧ Below W0.heap.size W0 wr) (fun _ i _ => 7 - (intOf i).toNat)
    case atStart => exact ⟨0, none, 0, by omega, rfl, by cases r <;> rfl, by cases r <;> exact OwnA.nil _ _, Below.refl _ _⟩
    case round =>
     obtain ⟨j, B, k, hj, rfl, rfl, hO, hb⟩ := hrel
     have hbr := below_chain hb hbW
     replace hO := Lib.hid hO
     have hdone : j = 0 ∨ j = 1 ∨ j = 2 ∨ j = 3 ∨ j = 4 ∨ j = 5 ∨ j = 6 ∨ j = 7 := by omega
     rcases hdone with rfl | rfl | rfl | rfl | rfl | rfl | rfl | rfl
     ·
      have c9 : wr.cell? ⟨gs, 0, none⟩ = some (.func (.func 24) #[] #[.pointer (some ⟨bl, 0, none⟩)]) := (K7.call hb).cell 0
      have q := Lib.hid (chk1 (hL7.call hb) false (EN A d _ hbr))
      go_wp2_with (go_at_call 24; (refine q.out.mono ?_); rintro e w9 ⟨rfl, hb9⟩)
      go_roundw
      case rel => exact ⟨1, B, k, by omega, rfl, by cases r <;> rfl, by have h := OwnA.call hO.out hb9; cases r <;> exact h, below_chain hb9 hb⟩
      case measure => simp [intOf]
     ·
      have c9 : wr.cell? ⟨gs, 1, none⟩ = some (.func (.func 26) #[] #[.pointer (some ⟨bl, 0, none⟩), .pointer (some ⟨ba, 0, none⟩)]) := (K7.call hb).cell 1
      have q := Lib.hid (chk2 (hL7.call hb) (hB7.call hb) false (ST A d _ hbr))
      go_wp2_with (go_at_call 26; (refine q.out.mono ?_); rintro e w9 ⟨rfl, hb9⟩)
      go_roundw
      case rel => exact ⟨2, B, k, by omega, rfl, by cases r <;> rfl, by have h := OwnA.call hO.out hb9; cases r <;> exact h, below_chain hb9 hb⟩
      case measure => simp [intOf]
     ·
      have c9 : wr.cell? ⟨gs, 2, none⟩ = some (.func (.func 28) #[] #[.pointer (some ⟨w.heap.size, 0, none⟩), .pointer (some ⟨bl, 0, none⟩)]) := (K7.call hb).cell 2
      have q := Lib.hid (chk3 (hp7.call hb) (hL7.call hb) false (TW A d _ hbr))
      go_wp2_with (go_at_call 28; (refine q.out.mono ?_); rintro e w9 ⟨rfl, hb9⟩)
      go_roundw
      case rel => exact ⟨3, B, k, by omega, rfl, by cases r <;> rfl, by have h := OwnA.call hO.out hb9; cases r <;> exact h, below_chain hb9 hb⟩
      case measure => simp [intOf]
     ·
      have c9 : wr.cell? ⟨gs, 3, none⟩ = some (.func (.func 30) #[] #[.pointer (some ⟨w.heap.size + 1, 0, none⟩), .pointer (some ⟨w.heap.size, 0, none⟩), .pointer (some ⟨ba, 0, none⟩)]) := (K7.call hb).cell 3
      have q := Lib.hid (chk4 (hs7.call hb) (hp7.call hb) (hB7.call hb) false (LD _ hbr))
      go_wp2_with (go_at_call 30; (refine q.out.mono ?_); rintro e w9 ⟨rfl, hb9⟩)
      go_roundw
      case rel => exact ⟨4, B, k, by omega, rfl, by cases r <;> rfl, by have h := OwnA.call hO.out hb9; cases r <;> exact h, below_chain hb9 hb⟩
      case measure => simp [intOf]
     ·
      have c9 : wr.cell? ⟨gs, 4, none⟩ = some (.func (.func 32) #[] #[.pointer (some ⟨w.heap.size + 1, 0, none⟩), .pointer (some ⟨w.heap.size, 0, none⟩), .pointer (some ⟨bl, 0, none⟩)]) := (K7.call hb).cell 4
      have q := Lib.hid (chk5 (hs7.call hb) (hp7.call hb) (hL7.call hb) r (SL A d _ hbr))
      cases r
      ·
       go_wp2_with (go_at_call 32; (refine q.out.mono ?_); rintro e w9 ⟨rfl, hb9⟩)
       go_roundw
       case rel => exact ⟨5, B, k, by omega, rfl, rfl, OwnA.call hO.out hb9, below_chain hb9 hb⟩
       case measure => simp [intOf]
      ·
       go_wp2_with (first | (go_at_call 32; (refine q.out.mono ?_); rintro e w9 ⟨rfl, hb9⟩; have hO9 := Lib.hid (OwnA.call hO.out hb9); have hb9w := below_chain hb9 hb; have hz9 := hb9w.size) | (at_builtin; refine wpList_push_int rfl (.tmp 34) (.tmp 37) rfl W0.heap.size B k (oL true 4) _ rfl rfl hO9.out _ rfl rfl (by decide) hz9 ?_; intro A2 p2 w7 ho7 hp7))
       have hS7 := hp7.below (w0 := W0) (B := W0.heap.size) hb9w hz9 (fun b hb => (hO9.out.block hb).1)
       replace ho7 := Lib.hid ho7
       go_wp2_with fail
       go_roundw
       case rel => exact ⟨5, A2, p2, by omega, rfl, rfl, ho7.out, hS7⟩
       case measure => simp [intOf]
     ·
      have c9 : wr.cell? ⟨gs, 5, none⟩ = some (.func (.func 34) #[] #[.pointer (some ⟨ba, 0, none⟩)]) := (K7.call hb).cell 5
      have q := Lib.hid (chk6 (hB7.call hb) false (OR _ hbr))
      go_wp2_with (go_at_call 34; (refine q.out.mono ?_); rintro e w9 ⟨rfl, hb9⟩)
      go_roundw
      case rel => exact ⟨6, B, k, by omega, rfl, by cases r <;> rfl, by have h := OwnA.call hO.out hb9; cases r <;> exact h, below_chain hb9 hb⟩
      case measure => simp [intOf]
     ·
      have c9 : wr.cell? ⟨gs, 6, none⟩ = some (.func (.func 36) #[] #[.pointer (some ⟨w.heap.size, 0, none⟩)]) := (K7.call hb).cell 6
      have q := Lib.hid (chk7 (hp7.call hb) BV false (BD _ hbr) (fun w9 h9 => BO w9 (below_chain h9 hbr)))
      go_wp2_with (go_at_call 36; (refine q.out.mono ?_); rintro e w9 ⟨rfl, hb9⟩)
      go_roundw
      case rel => exact ⟨7, B, k, by omega, rfl, by cases r <;> rfl, by have h := OwnA.call hO.out hb9; cases r <;> exact h, below_chain hb9 hb⟩
      case measure => simp [intOf]
     ·
      go_wp2_with fail
      go_ret
      exact ⟨B, k, rfl, ⟨hO.out.1, hO.out.2.imp (fun x => x) fun ⟨g, cap, cur, a, b, c⟩ => ⟨g, cap, cur, a, Nat.le_trans hszW b, c⟩⟩, hbr⟩
   refine consH rfl (fun K hK => ?_) AllReadyH.nil
   ·
    go_simp
    have hbA16 : Below v11.heap.size v11 (v11.alloc (.cells #[.slice none 0 0] 78)) := below_alloc (Below.refl _ _) _
    have hB16 : Blk (v11.alloc (.cells #[.slice none 0 0] 78)) v11.heap.size 78 #[.slice none 0 0] := Blk.new v11 78 #[.slice none 0 0]
    have gba16 : w1.heap.size ≤ v11.heap.size := hH11.1.size
    have hbS16 := below_chain hbA16 hH11.1
    refine hK.out _ _ ⟨hbS16, hC.out _ hbS16⟩ (fun hH16 => ?_)
    clear hK K
    try go_frame
    generalize v11.alloc (.cells #[.slice none 0 0] 78) = v16 at *
    refine wpAnyH_ready (rs := [4]) (by kernel_rfl) (by simp) ?_
    refine consH rfl (fun K hK => ?_) AllReadyH.nil
    go_simp
    have hbA17 : Below v16.heap.size v16 (v16.alloc (.cells #[.slice none 0 0] 76)) := below_alloc (Below.refl _ _) _
    have hL17 : Blk (v16.alloc (.cells #[.slice none 0 0] 76)) v16.heap.size 76 #[.slice none 0 0] := Blk.new v16 76 #[.slice none 0 0]
    have gbl17 : w1.heap.size ≤ v16.heap.size := hH16.1.size
    have hB17 := Blk.call hB16 hbA17
    have hne : ¬ v11.heap.size = v16.heap.size := Nat.ne_of_lt (Blk.lt hB16)
    have hbS17 := below_chain hbA17 hH16.1
    refine hK.out _ _ ⟨hbS17, hC.out _ hbS17⟩ (fun hH17 => ?_)
    clear hK K
    try go_frame
    generalize v16.alloc (.cells #[.slice none 0 0] 76) = v17 at *
    refine wpAnyH_ready (rs := [6]) (by kernel_rfl) (by simp) ?_
    refine consH rfl (fun K hK => ?_) AllReadyH.nil
    have z18 : v17.cell? ⟨v16.heap.size, 0, none⟩ = some (.slice none 0 0) := Blk.cell hL17 0
    have y18 : v17.frozen? ⟨v16.heap.size, 0, none⟩ = false := Blk.frozen hL17 0
    go_simp
    have hL18 := put_at hL17 0 (.slice A 0 d)
    have hB18 := put_off hB17 (fun h => hne h.symm) 0 (.slice A 0 d)
    have hbS18 : Below w1.heap.size w1 (v17.setCell ⟨v16.heap.size, 0, none⟩ (.slice A 0 d)) := Below.setCell hH17.1 gbl17 _
    refine hK.out _ _ ⟨hbS18, hC.out _ hbS18⟩ (fun hH18 => ?_)
    clear hK K z18 y18
    try go_frame
    generalize v17.setCell ⟨v16.heap.size, 0, none⟩ (.slice A 0 d) = v18 at *
    refine wpAnyH_ready (rs := [7]) (by kernel_rfl) (by simp) ?_
    refine consH rfl (fun K hK => ?_) AllReadyH.nil
    have z19 : v18.cell? ⟨v11.heap.size, 0, none⟩ = some (.slice none 0 0) := Blk.cell hB18 0
    have y19 : v18.frozen? ⟨v11.heap.size, 0, none⟩ = false := Blk.frozen hB18 0
    go_simp
    have hB19 := put_at hB18 0 (.slice none 0 0)
    have hL19 := put_off hL18 (fun h => (fun h => hne h.symm) h.symm) 0 (.slice none 0 0)
    have hbS19 : Below w1.heap.size w1 (v18.setCell ⟨v11.heap.size, 0, none⟩ (.slice none 0 0)) := Below.setCell hH18.1 gba16 _
    refine hK.out _ _ ⟨hbS19, hC.out _ hbS19⟩ (fun hH19 => ?_)
    clear hK K z19 y19
    try go_frame
    generalize v18.setCell ⟨v11.heap.size, 0, none⟩ (.slice none 0 0) = v19 at *
    refine wpAnyH_done (by kernel_rfl) ?_ _
    obtain ⟨bl, hbl⟩ : ∃ b, v16.heap.size = b := ⟨_, rfl⟩
    obtain ⟨ba, hba⟩ : ∃ b, v11.heap.size = b := ⟨_, rfl⟩
    have hLf := hL19
    have hBf := hB19
    have hbf := hH19.1
    rw [hbl] at hLf
    rw [hba] at hBf
    rw [hbl, hba]
    clear hL19 hB19
    go_wp2_with fail
    have K7 : Blk (v19.alloc (.cells #[.func (.func 24) #[] #[.pointer (some ⟨bl, 0, none⟩)], .func (.func 26) #[] #[.pointer (some ⟨bl, 0, none⟩), .pointer (some ⟨ba, 0, none⟩)], .func (.func 28) #[] #[.pointer (some ⟨w.heap.size, 0, none⟩), .pointer (some ⟨bl, 0, none⟩)], .func (.func 30) #[] #[.pointer (some ⟨w.heap.size + 1, 0, none⟩), .pointer (some ⟨w.heap.size, 0, none⟩), .pointer (some ⟨ba, 0, none⟩)], .func (.func 32) #[] #[.pointer (some ⟨w.heap.size + 1, 0, none⟩), .pointer (some ⟨w.heap.size, 0, none⟩), .pointer (some ⟨bl, 0, none⟩)], .func (.func 34) #[] #[.pointer (some ⟨ba, 0, none⟩)], .func (.func 36) #[] #[.pointer (some ⟨w.heap.size, 0, none⟩)]] 40)) v19.heap.size 40 #[.func (.func 24) #[] #[.pointer (some ⟨bl, 0, none⟩)], .func (.func 26) #[] #[.pointer (some ⟨bl, 0, none⟩), .pointer (some ⟨ba, 0, none⟩)], .func (.func 28) #[] #[.pointer (some ⟨w.heap.size, 0, none⟩), .pointer (some ⟨bl, 0, none⟩)], .func (.func 30) #[] #[.pointer (some ⟨w.heap.size + 1, 0, none⟩), .pointer (some ⟨w.heap.size, 0, none⟩), .pointer (some ⟨ba, 0, none⟩)], .func (.func 32) #[] #[.pointer (some ⟨w.heap.size + 1, 0, none⟩), .pointer (some ⟨w.heap.size, 0, none⟩), .pointer (some ⟨bl, 0, none⟩)], .func (.func 34) #[] #[.pointer (some ⟨ba, 0, none⟩)], .func (.func 36) #[] #[.pointer (some ⟨w.heap.size, 0, none⟩)]] := Blk.new v19 40 _
    have hA7 : Below v19.heap.size v19 (v19.alloc (.cells #[.func (.func 24) #[] #[.pointer (some ⟨bl, 0, none⟩)], .func (.func 26) #[] #[.pointer (some ⟨bl, 0, none⟩), .pointer (some ⟨ba, 0, none⟩)], .func (.func 28) #[] #[.pointer (some ⟨w.heap.size, 0, none⟩), .pointer (some ⟨bl, 0, none⟩)], .func (.func 30) #[] #[.pointer (some ⟨w.heap.size + 1, 0, none⟩), .pointer (some ⟨w.heap.size, 0, none⟩), .pointer (some ⟨ba, 0, none⟩)], .func (.func 32) #[] #[.pointer (some ⟨w.heap.size + 1, 0, none⟩), .pointer (some ⟨w.heap.size, 0, none⟩), .pointer (some ⟨bl, 0, none⟩)], .func (.func 34) #[] #[.pointer (some ⟨ba, 0, none⟩)], .func (.func 36) #[] #[.pointer (some ⟨w.heap.size, 0, none⟩)]] 40)) := below_alloc (Below.refl _ _) _
    have hL7 := Blk.call hLf hA7
    have hB7 := Blk.call hBf hA7
    have hb7 := below_chain hA7 hbf
    generalize v19.alloc (.cells #[.func (.func 24) #[] #[.pointer (some ⟨bl, 0, none⟩)], .func (.func 26) #[] #[.pointer (some ⟨bl, 0, none⟩), .pointer (some ⟨ba, 0, none⟩)], .func (.func 28) #[] #[.pointer (some ⟨w.heap.size, 0, none⟩), .pointer (some ⟨bl, 0, none⟩)], .func (.func 30) #[] #[.pointer (some ⟨w.heap.size + 1, 0, none⟩), .pointer (some ⟨w.heap.size, 0, none⟩), .pointer (some ⟨ba, 0, none⟩)], .func (.func 32) #[] #[.pointer (some ⟨w.heap.size + 1, 0, none⟩), .pointer (some ⟨w.heap.size, 0, none⟩), .pointer (some ⟨bl, 0, none⟩)], .func (.func 34) #[] #[.pointer (some ⟨ba, 0, none⟩)], .func (.func 36) #[] #[.pointer (some ⟨w.heap.size, 0, none⟩)]] 40) = W0 at *
    obtain ⟨gs, hgs⟩ : ∃ g, v19.heap.size = g := ⟨_, rfl⟩
    rw [hgs] at K7
    rw [hgs]
    have hp7 := Blk.call hp1.out hb7
    have hs7 := Blk.call hs1.out hb7
    have hbW := below_chain hb7 hb1.out
    have hszW := hbW.size
    clear hLf hBf hbf hA7 hb7
    go_loopw [8, 27] (fun s i wr => ∃ (j : Nat) (B : Option Addr) (k : Nat), j ≤ 7 ∧ i = .int .i64 (j : Nat) ∧ s = .slice B (oL r j).length k ∧ OwnI wr W0.heap.size B k (oL r j) ∧ Below W0.heap.size W0 wr) (fun _ i _ => 7 - (intOf i).toNat)
    case atStart => exact ⟨0, none, 0, by omega, rfl, by cases r <;> rfl, by cases r <;> exact OwnA.nil _ _, Below.refl _ _⟩
    case round =>
     obtain ⟨j, B, k, hj, rfl, rfl, hO, hb⟩ := hrel
     have hbr := below_chain hb hbW
     replace hO := Lib.hid hO
     have hdone : j = 0 ∨ j = 1 ∨ j = 2 ∨ j = 3 ∨ j = 4 ∨ j = 5 ∨ j = 6 ∨ j = 7 := by omega
     rcases hdone with rfl | rfl | rfl | rfl | rfl | rfl | rfl | rfl
     ·
      have c9 : wr.cell? ⟨gs, 0, none⟩ = some (.func (.func 24) #[] #[.pointer (some ⟨bl, 0, none⟩)]) := (K7.call hb).cell 0
      have q := Lib.hid (chk1 (hL7.call hb) false (EN A d _ hbr))
      go_wp2_with (go_at_call 24; (refine q.out.mono ?_); rintro e w9 ⟨rfl, hb9⟩)
      go_roundw
      case rel => exact ⟨1, B, k, by omega, rfl, by cases r <;> rfl, by have h := OwnA.call hO.out hb9; cases r <;> exact h, below_chain hb9 hb⟩
      case measure => simp [intOf]
     ·
      have c9 : wr.cell? ⟨gs, 1, none⟩ = some (.func (.func 26) #[] #[.pointer (some ⟨bl, 0, none⟩), .pointer (some ⟨ba, 0, none⟩)]) := (K7.call hb).cell 1
      have q := Lib.hid (chk2 (hL7.call hb) (hB7.call hb) false (ST A d _ hbr))
      go_wp2_with (go_at_call 26; (refine q.out.mono ?_); rintro e w9 ⟨rfl, hb9⟩)
      go_roundw
      case rel => exact ⟨2, B, k, by omega, rfl, by cases r <;> rfl, by have h := OwnA.call hO.out hb9; cases r <;> exact h, below_chain hb9 hb⟩
      case measure => simp [intOf]
     ·
      have c9 : wr.cell? ⟨gs, 2, none⟩ = some (.func (.func 28) #[] #[.pointer (some ⟨w.heap.size, 0, none⟩), .pointer (some ⟨bl, 0, none⟩)]) := (K7.call hb).cell 2
      have q := Lib.hid (chk3 (hp7.call hb) (hL7.call hb) false (TW A d _ hbr))
      go_wp2_with (go_at_call 28; (refine q.out.mono ?_); rintro e w9 ⟨rfl, hb9⟩)
      go_roundw
      case rel => exact ⟨3, B, k, by omega, rfl, by cases r <;> rfl, by have h := OwnA.call hO.out hb9; cases r <;> exact h, below_chain hb9 hb⟩
      case measure => simp [intOf]
     ·
      have c9 : wr.cell? ⟨gs, 3, none⟩ = some (.func (.func 30) #[] #[.pointer (some ⟨w.heap.size + 1, 0, none⟩), .pointer (some ⟨w.heap.size, 0, none⟩), .pointer (some ⟨ba, 0, none⟩)]) := (K7.call hb).cell 3
      have q := Lib.hid (chk4 (hs7.call hb) (hp7.call hb) (hB7.call hb) false (LD _ hbr))
      go_wp2_with (go_at_call 30; (refine q.out.mono ?_); rintro e w9 ⟨rfl, hb9⟩)
      go_roundw
      case rel => exact ⟨4, B, k, by omega, rfl, by cases r <;> rfl, by have h := OwnA.call hO.out hb9; cases r <;> exact h, below_chain hb9 hb⟩
      case measure => simp [intOf]
     ·
      have c9 : wr.cell? ⟨gs, 4, none⟩ = some (.func (.func 32) #[] #[.pointer (some ⟨w.heap.size + 1, 0, none⟩), .pointer (some ⟨w.heap.size, 0, none⟩), .pointer (some ⟨bl, 0, none⟩)]) := (K7.call hb).cell 4
      have q := Lib.hid (chk5 (hs7.call hb) (hp7.call hb) (hL7.call hb) r (SL A d _ hbr))
      cases r
      ·
       go_wp2_with (go_at_call 32; (refine q.out.mono ?_); rintro e w9 ⟨rfl, hb9⟩)
       go_roundw
       case rel => exact ⟨5, B, k, by omega, rfl, rfl, OwnA.call hO.out hb9, below_chain hb9 hb⟩
       case measure => simp [intOf]
      ·
       go_wp2_with (first | (go_at_call 32; (refine q.out.mono ?_); rintro e w9 ⟨rfl, hb9⟩; have hO9 := Lib.hid (OwnA.call hO.out hb9); have hb9w := below_chain hb9 hb; have hz9 := hb9w.size) | (at_builtin; refine wpList_push_int rfl (.tmp 34) (.tmp 37) rfl W0.heap.size B k (oL true 4) _ rfl rfl hO9.out _ rfl rfl (by decide) hz9 ?_; intro A2 p2 w7 ho7 hp7))
       have hS7 := hp7.below (w0 := W0) (B := W0.heap.size) hb9w hz9 (fun b hb => (hO9.out.block hb).1)
       replace ho7 := Lib.hid ho7
       go_wp2_with fail
       go_roundw
       case rel => exact ⟨5, A2, p2, by omega, rfl, rfl, ho7.out, hS7⟩
       case measure => simp [intOf]
     ·
      have c9 : wr.cell? ⟨gs, 5, none⟩ = some (.func (.func 34) #[] #[.pointer (some ⟨ba, 0, none⟩)]) := (K7.call hb).cell 5
      have q := Lib.hid (chk6 (hB7.call hb) false (OR _ hbr))
      go_wp2_with (go_at_call 34; (refine q.out.mono ?_); rintro e w9 ⟨rfl, hb9⟩)
      go_roundw
      case rel => exact ⟨6, B, k, by omega, rfl, by cases r <;> rfl, by have h := OwnA.call hO.out hb9; cases r <;> exact h, below_chain hb9 hb⟩
      case measure => simp [intOf]
     ·
      have c9 : wr.cell? ⟨gs, 6, none⟩ = some (.func (.func 36) #[] #[.pointer (some ⟨w.heap.size, 0, none⟩)]) := (K7.call hb).cell 6
      have q := Lib.hid (chk7 (hp7.call hb) BV false (BD _ hbr) (fun w9 h9 => BO w9 (below_chain h9 hbr)))
      go_wp2_with (go_at_call 36; (refine q.out.mono ?_); rintro e w9 ⟨rfl, hb9⟩)
      go_roundw
      case rel => exact ⟨7, B, k, by omega, rfl, by cases r <;> rfl, by have h := OwnA.call hO.out hb9; cases r <;> exact h, below_chain hb9 hb⟩
      case measure => simp [intOf]
     ·
      go_wp2_with fail
      go_ret
      exact ⟨B, k, rfl, ⟨hO.out.1, hO.out.2.imp (fun x => x) fun ⟨g, cap, cur, a, b, c⟩ => ⟨g, cap, cur, a, Nat.le_trans hszW b, c⟩⟩, hbr⟩
  refine consH rfl (fun K hK => ?_) ?_
  ·
   go_simp
   have hbA20 : Below v10.heap.size v10 (v10.alloc (.cells #[.slice none 0 0] 76)) := below_alloc (Below.refl _ _) _
   have hL20 : Blk (v10.alloc (.cells #[.slice none 0 0] 76)) v10.heap.size 76 #[.slice none 0 0] := Blk.new v10 76 #[.slice none 0 0]
   have gbl20 : w1.heap.size ≤ v10.heap.size := hH10.1.size
   have hbS20 := below_chain hbA20 hH10.1
   refine hK.out _ _ ⟨hbS20, hC.out _ hbS20⟩ (fun hH20 => ?_)
   clear hK K
   try go_frame
   generalize v10.alloc (.cells #[.slice none 0 0] 76) = v20 at *
   refine wpAnyH_ready (rs := [3, 5]) (by kernel_rfl) (by simp) ?_
   refine consH rfl (fun K hK => ?_) ?_
   ·
    go_simp
    (go_at_call 23; (with_reducible refine (LS.out _ (below_chain hH20.1 hb1.out)).mono ?_))
    rintro e v21 ⟨rfl, hb21⟩
    have hbS21 := below_chain hb21 hH20.1
    have hL21 := Blk.call hL20 hb21
    refine hK.out _ _ ⟨hbS21, hC.out _ hbS21⟩ (fun hH21 => ?_)
    clear hK K
    try go_frame
    refine wpAnyH_ready (rs := [5]) (by kernel_rfl) (by simp) ?_
    refine consH rfl (fun K hK => ?_) AllReadyH.nil
    go_simp
    have hbA22 : Below v21.heap.size v21 (v21.alloc (.cells #[.slice none 0 0] 78)) := below_alloc (Below.refl _ _) _
    have hB22 : Blk (v21.alloc (.cells #[.slice none 0 0] 78)) v21.heap.size 78 #[.slice none 0 0] := Blk.new v21 78 #[.slice none 0 0]
    have gba22 : w1.heap.size ≤ v21.heap.size := hH21.1.size
    have hL22 := Blk.call hL21 hbA22
    have hne : ¬ v10.heap.size = v21.heap.size := Nat.ne_of_lt (Blk.lt hL21)
    have hbS22 := below_chain hbA22 hH21.1
    refine hK.out _ _ ⟨hbS22, hC.out _ hbS22⟩ (fun hH22 => ?_)
    clear hK K
    try go_frame
    generalize v21.alloc (.cells #[.slice none 0 0] 78) = v22 at *
    refine wpAnyH_ready (rs := [6]) (by kernel_rfl) (by simp) ?_
    refine consH rfl (fun K hK => ?_) AllReadyH.nil
    have z23 : v22.cell? ⟨v10.heap.size, 0, none⟩ = some (.slice none 0 0) := Blk.cell hL22 0
    have y23 : v22.frozen? ⟨v10.heap.size, 0, none⟩ = false := Blk.frozen hL22 0
    go_simp
    have hL23 := put_at hL22 0 (.slice A 0 d)
    have hB23 := put_off hB22 hne 0 (.slice A 0 d)
    have hbS23 : Below w1.heap.size w1 (v22.setCell ⟨v10.heap.size, 0, none⟩ (.slice A 0 d)) := Below.setCell hH22.1 gbl20 _
    refine hK.out _ _ ⟨hbS23, hC.out _ hbS23⟩ (fun hH23 => ?_)
    clear hK K z23 y23
    try go_frame
    generalize v22.setCell ⟨v10.heap.size, 0, none⟩ (.slice A 0 d) = v23 at *
    refine wpAnyH_ready (rs := [7]) (by kernel_rfl) (by simp) ?_
    refine consH rfl (fun K hK => ?_) AllReadyH.nil
    have z24 : v23.cell? ⟨v21.heap.size, 0, none⟩ = some (.slice none 0 0) := Blk.cell hB23 0
    have y24 : v23.frozen? ⟨v21.heap.size, 0, none⟩ = false := Blk.frozen hB23 0
    go_simp
    have hB24 := put_at hB23 0 (.slice none 0 0)
    have hL24 := put_off hL23 (fun h => hne h.symm) 0 (.slice none 0 0)
    have hbS24 : Below w1.heap.size w1 (v23.setCell ⟨v21.heap.size, 0, none⟩ (.slice none 0 0)) := Below.setCell hH23.1 gba22 _
    refine hK.out _ _ ⟨hbS24, hC.out _ hbS24⟩ (fun hH24 => ?_)
    clear hK K z24 y24
    try go_frame
    generalize v23.setCell ⟨v21.heap.size, 0, none⟩ (.slice none 0 0) = v24 at *
    refine wpAnyH_done (by kernel_rfl) ?_ _
    obtain ⟨bl, hbl⟩ : ∃ b, v10.heap.size = b := ⟨_, rfl⟩
    obtain ⟨ba, hba⟩ : ∃ b, v21.heap.size = b := ⟨_, rfl⟩
    have hLf := hL24
    have hBf := hB24
    have hbf := hH24.1
    rw [hbl] at hLf
    rw [hba] at hBf
    rw [hbl, hba]
    clear hL24 hB24
    go_wp2_with fail
    have K7 : Blk (v24.alloc (.cells #[.func (.func 24) #[] #[.pointer (some ⟨bl, 0, none⟩)], .func (.func 26) #[] #[.pointer (some ⟨bl, 0, none⟩), .pointer (some ⟨ba, 0, none⟩)], .func (.func 28) #[] #[.pointer (some ⟨w.heap.size, 0, none⟩), .pointer (some ⟨bl, 0, none⟩)], .func (.func 30) #[] #[.pointer (some ⟨w.heap.size + 1, 0, none⟩), .pointer (some ⟨w.heap.size, 0, none⟩), .pointer (some ⟨ba, 0, none⟩)], .func (.func 32) #[] #[.pointer (some ⟨w.heap.size + 1, 0, none⟩), .pointer (some ⟨w.heap.size, 0, none⟩), .pointer (some ⟨bl, 0, none⟩)], .func (.func 34) #[] #[.pointer (some ⟨ba, 0, none⟩)], .func (.func 36) #[] #[.pointer (some ⟨w.heap.size, 0, none⟩)]] 40)) v24.heap.size 40 #[.func (.func 24) #[] #[.pointer (some ⟨bl, 0, none⟩)], .func (.func 26) #[] #[.pointer (some ⟨bl, 0, none⟩), .pointer (some ⟨ba, 0, none⟩)], .func (.func 28) #[] #[.pointer (some ⟨w.heap.size, 0, none⟩), .pointer (some ⟨bl, 0, none⟩)], .func (.func 30) #[] #[.pointer (some ⟨w.heap.size + 1, 0, none⟩), .pointer (some ⟨w.heap.size, 0, none⟩), .pointer (some ⟨ba, 0, none⟩)], .func (.func 32) #[] #[.pointer (some ⟨w.heap.size + 1, 0, none⟩), .pointer (some ⟨w.heap.size, 0, none⟩), .pointer (some ⟨bl, 0, none⟩)], .func (.func 34) #[] #[.pointer (some ⟨ba, 0, none⟩)], .func (.func 36) #[] #[.pointer (some ⟨w.heap.size, 0, none⟩)]] := Blk.new v24 40 _
    have hA7 : Below v24.heap.size v24 (v24.alloc (.cells #[.func (.func 24) #[] #[.pointer (some ⟨bl, 0, none⟩)], .func (.func 26) #[] #[.pointer (some ⟨bl, 0, none⟩), .pointer (some ⟨ba, 0, none⟩)], .func (.func 28) #[] #[.pointer (some ⟨w.heap.size, 0, none⟩), .pointer (some ⟨bl, 0, none⟩)], .func (.func 30) #[] #[.pointer (some ⟨w.heap.size + 1, 0, none⟩), .pointer (some ⟨w.heap.size, 0, none⟩), .pointer (some ⟨ba, 0, none⟩)], .func (.func 32) #[] #[.pointer (some ⟨w.heap.size + 1, 0, none⟩), .pointer (some ⟨w.heap.size, 0, none⟩), .pointer (some ⟨bl, 0, none⟩)], .func (.func 34) #[] #[.pointer (some ⟨ba, 0, none⟩)], .func (.func 36) #[] #[.pointer (some ⟨w.heap.size, 0, none⟩)]] 40)) := below_alloc (Below.refl _ _) _
    have hL7 := Blk.call hLf hA7
    have hB7 := Blk.call hBf hA7
    have hb7 := below_chain hA7 hbf
    generalize v24.alloc (.cells #[.func (.func 24) #[] #[.pointer (some ⟨bl, 0, none⟩)], .func (.func 26) #[] #[.pointer (some ⟨bl, 0, none⟩), .pointer (some ⟨ba, 0, none⟩)], .func (.func 28) #[] #[.pointer (some ⟨w.heap.size, 0, none⟩), .pointer (some ⟨bl, 0, none⟩)], .func (.func 30) #[] #[.pointer (some ⟨w.heap.size + 1, 0, none⟩), .pointer (some ⟨w.heap.size, 0, none⟩), .pointer (some ⟨ba, 0, none⟩)], .func (.func 32) #[] #[.pointer (some ⟨w.heap.size + 1, 0, none⟩), .pointer (some ⟨w.heap.size, 0, none⟩), .pointer (some ⟨bl, 0, none⟩)], .func (.func 34) #[] #[.pointer (some ⟨ba, 0, none⟩)], .func (.func 36) #[] #[.pointer (some ⟨w.heap.size, 0, none⟩)]] 40) = W0 at *
    obtain ⟨gs, hgs⟩ : ∃ g, v24.heap.size = g := ⟨_, rfl⟩
    rw [hgs] at K7
    rw [hgs]
    have hp7 := Blk.call hp1.out hb7
    have hs7 := Blk.call hs1.out hb7
    have hbW := below_chain hb7 hb1.out
    have hszW := hbW.size
    clear hLf hBf hbf hA7 hb7
    go_loopw [8, 27] (fun s i wr => ∃ (j : Nat) (B : Option Addr) (k : Nat), j ≤ 7 ∧ i = .int .i64 (j : Nat) ∧ s = .slice B (oL r j).length k ∧ OwnI wr W0.heap.size B k (oL r j) ∧ Below W0.heap.size W0 wr) (fun _ i _ => 7 - (intOf i).toNat)
    case atStart => exact ⟨0, none, 0, by omega, rfl, by cases r <;> rfl, by cases r <;> exact OwnA.nil _ _, Below.refl _ _⟩
    case round =>
     obtain ⟨j, B, k, hj, rfl, rfl, hO, hb⟩ := hrel
     have hbr := below_chain hb hbW
     replace hO := Lib.hid hO
     have hdone : j = 0 ∨ j = 1 ∨ j = 2 ∨ j = 3 ∨ j = 4 ∨ j = 5 ∨ j = 6 ∨ j = 7 := by omega
     rcases hdone with rfl | rfl | rfl | rfl | rfl | rfl | rfl | rfl
     ·
      have c9 : wr.cell? ⟨gs, 0, none⟩ = some (.func (.func 24) #[] #[.pointer (some ⟨bl, 0, none⟩)]) := (K7.call hb).cell 0
      have q := Lib.hid (chk1 (hL7.call hb) false (EN A d _ hbr))
      go_wp2_with (go_at_call 24; (refine q.out.mono ?_); rintro e w9 ⟨rfl, hb9⟩)
      go_roundw
      case rel => exact ⟨1, B, k, by omega, rfl, by cases r <;> rfl, by have h := OwnA.call hO.out hb9; cases r <;> exact h, below_chain hb9 hb⟩
      case measure => simp [intOf]
     ·
      have c9 : wr.cell? ⟨gs, 1, none⟩ = some (.func (.func 26) #[] #[.pointer (some ⟨bl, 0, none⟩), .pointer (some ⟨ba, 0, none⟩)]) := (K7.call hb).cell 1
      have q := Lib.hid (chk2 (hL7.call hb) (hB7.call hb) false (ST A d _ hbr))
      go_wp2_with (go_at_call 26; (refine q.out.mono ?_); rintro e w9 ⟨rfl, hb9⟩)
      go_roundw
      case rel => exact ⟨2, B, k, by omega, rfl, by cases r <;> rfl, by have h := OwnA.call hO.out hb9; cases r <;> exact h, below_chain hb9 hb⟩
      case measure => simp [intOf]
     ·
      have c9 : wr.cell? ⟨gs, 2, none⟩ = some (.func (.func 28) #[] #[.pointer (some ⟨w.heap.size, 0, none⟩), .pointer (some ⟨bl, 0, none⟩)]) := (K7.call hb).cell 2
      have q := Lib.hid (chk3 (hp7.call hb) (hL7.call hb) false (TW A d _ hbr))
      go_wp2_with (go_at_call 28; (refine q.out.mono ?_); rintro e w9 ⟨rfl, hb9⟩)
      go_roundw
      case rel => exact ⟨3, B, k, by omega, rfl, by cases r <;> rfl, by have h := OwnA.call hO.out hb9; cases r <;> exact h, below_chain hb9 hb⟩
      case measure => simp [intOf]
     ·
      have c9 : wr.cell? ⟨gs, 3, none⟩ = some (.func (.func 30) #[] #[.pointer (some ⟨w.heap.size + 1, 0, none⟩), .pointer (some ⟨w.heap.size, 0, none⟩), .pointer (some ⟨ba, 0, none⟩)]) := (K7.call hb).cell 3
      have q := Lib.hid (chk4 (hs7.call hb) (hp7.call hb) (hB7.call hb) false (LD _ hbr))
      go_wp2_with (go_at_call 30; (refine q.out.mono ?_); rintro e w9 ⟨rfl, hb9⟩)
      go_roundw
      case rel => exact ⟨4, B, k, by omega, rfl, by cases r <;> rfl, by have h := OwnA.call hO.out hb9; cases r <;> exact h, below_chain hb9 hb⟩
      case measure => simp [intOf]
     ·
      have c9 : wr.cell? ⟨gs, 4, none⟩ = some (.func (.func 32) #[] #[.pointer (some ⟨w.heap.size + 1, 0, none⟩), .pointer (some ⟨w.heap.size, 0, none⟩), .pointer (some ⟨bl, 0, none⟩)]) := (K7.call hb).cell 4
      have q := Lib.hid (chk5 (hs7.call hb) (hp7.call hb) (hL7.call hb) r (SL A d _ hbr))
      cases r
      ·
       go_wp2_with (go_at_call 32; (refine q.out.mono ?_); rintro e w9 ⟨rfl, hb9⟩)
       go_roundw
       case rel => exact ⟨5, B, k, by omega, rfl, rfl, OwnA.call hO.out hb9, below_chain hb9 hb⟩
       case measure => simp [intOf]
      ·
       go_wp2_with (first | (go_at_call 32; (refine q.out.mono ?_); rintro e w9 ⟨rfl, hb9⟩; have hO9 := Lib.hid (OwnA.call hO.out hb9); have hb9w := below_chain hb9 hb; have hz9 := hb9w.size) | (at_builtin; refine wpList_push_int rfl (.tmp 34) (.tmp 37) rfl W0.heap.size B k (oL true 4) _ rfl rfl hO9.out _ rfl rfl (by decide) hz9 ?_; intro A2 p2 w7 ho7 hp7))
       have hS7 := hp7.below (w0 := W0) (B := W0.heap.size) hb9w hz9 (fun b hb => (hO9.out.block hb).1)
       replace ho7 := Lib.hid ho7
       go_wp2_with fail
       go_roundw
       case rel => exact ⟨5, A2, p2, by omega, rfl, rfl, ho7.out, hS7⟩
       case measure => simp [intOf]
     ·
      have c9 : wr.cell? ⟨gs, 5, none⟩ = some (.func (.func 34) #[] #[.pointer (some ⟨ba, 0, none⟩)]) := (K7.call hb).cell 5
      have q := Lib.hid (chk6 (hB7.call hb) false (OR _ hbr))
      go_wp2_with (go_at_call 34; (refine q.out.mono ?_); rintro e w9 ⟨rfl, hb9⟩)
      go_roundw
      case rel => exact ⟨6, B, k, by omega, rfl, by cases r <;> rfl, by have h := OwnA.call hO.out hb9; cases r <;> exact h, below_chain hb9 hb⟩
      case measure => simp [intOf]
     ·
      have c9 : wr.cell? ⟨gs, 6, none⟩ = some (.func (.func 36) #[] #[.pointer (some ⟨w.heap.size, 0, none⟩)]) := (K7.call hb).cell 6
      have q := Lib.hid (chk7 (hp7.call hb) BV false (BD _ hbr) (fun w9 h9 => BO w9 (below_chain h9 hbr)))
      go_wp2_with (go_at_call 36; (refine q.out.mono ?_); rintro e w9 ⟨rfl, hb9⟩)
      go_roundw
      case rel => exact ⟨7, B, k, by omega, rfl, by cases r <;> rfl, by have h := OwnA.call hO.out hb9; cases r <;> exact h, below_chain hb9 hb⟩
      case measure => simp [intOf]
     ·
      go_wp2_with fail
      go_ret
      exact ⟨B, k, rfl, ⟨hO.out.1, hO.out.2.imp (fun x => x) fun ⟨g, cap, cur, a, b, c⟩ => ⟨g, cap, cur, a, Nat.le_trans hszW b, c⟩⟩, hbr⟩
   refine consH rfl (fun K hK => ?_) AllReadyH.nil
   ·
    go_simp
    have hbA25 : Below v20.heap.size v20 (v20.alloc (.cells #[.slice none 0 0] 78)) := below_alloc (Below.refl _ _) _
    have hB25 : Blk (v20.alloc (.cells #[.slice none 0 0] 78)) v20.heap.size 78 #[.slice none 0 0] := Blk.new v20 78 #[.slice none 0 0]
    have gba25 : w1.heap.size ≤ v20.heap.size := hH20.1.size
    have hL25 := Blk.call hL20 hbA25
    have hne : ¬ v10.heap.size = v20.heap.size := Nat.ne_of_lt (Blk.lt hL20)
    have hbS25 := below_chain hbA25 hH20.1
    refine hK.out _ _ ⟨hbS25, hC.out _ hbS25⟩ (fun hH25 => ?_)
    clear hK K
    try go_frame
    generalize v20.alloc (.cells #[.slice none 0 0] 78) = v25 at *
    refine wpAnyH_ready (rs := [3]) (by kernel_rfl) (by simp) ?_
    refine consH rfl (fun K hK => ?_) AllReadyH.nil
    go_simp
    (go_at_call 23; (with_reducible refine (LS.out _ (below_chain hH25.1 hb1.out)).mono ?_))
    rintro e v26 ⟨rfl, hb26⟩
    have hbS26 := below_chain hb26 hH25.1
    have hL26 := Blk.call hL25 hb26
    have hB26 := Blk.call hB25 hb26
    refine hK.out _ _ ⟨hbS26, hC.out _ hbS26⟩ (fun hH26 => ?_)
    clear hK K
    try go_frame
    refine wpAnyH_ready (rs := [6]) (by kernel_rfl) (by simp) ?_
    refine consH rfl (fun K hK => ?_) AllReadyH.nil
    have z27 : v26.cell? ⟨v10.heap.size, 0, none⟩ = some (.slice none 0 0) := Blk.cell hL26 0
    have y27 : v26.frozen? ⟨v10.heap.size, 0, none⟩ = false := Blk.frozen hL26 0
    go_simp
    have hL27 := put_at hL26 0 (.slice A 0 d)
    have hB27 := put_off hB26 hne 0 (.slice A 0 d)
    have hbS27 : Below w1.heap.size w1 (v26.setCell ⟨v10.heap.size, 0, none⟩ (.slice A 0 d)) := Below.setCell hH26.1 gbl20 _
    refine hK.out _ _ ⟨hbS27, hC.out _ hbS27⟩ (fun hH27 => ?_)
    clear hK K z27 y27
    try go_frame
    generalize v26.setCell ⟨v10.heap.size, 0, none⟩ (.slice A 0 d) = v27 at *
    refine wpAnyH_ready (rs := [7]) (by kernel_rfl) (by simp) ?_
    refine consH rfl (fun K hK => ?_) AllReadyH.nil
    have z28 : v27.cell? ⟨v20.heap.size, 0, none⟩ = some (.slice none 0 0) := Blk.cell hB27 0
    have y28 : v27.frozen? ⟨v20.heap.size, 0, none⟩ = false := Blk.frozen hB27 0
    go_simp
    have hB28 := put_at hB27 0 (.slice none 0 0)
    have hL28 := put_off hL27 (fun h => hne h.symm) 0 (.slice none 0 0)
    have hbS28 : Below w1.heap.size w1 (v27.setCell ⟨v20.heap.size, 0, none⟩ (.slice none 0 0)) := Below.setCell hH27.1 gba25 _
    refine hK.out _ _ ⟨hbS28, hC.out _ hbS28⟩ (fun hH28 => ?_)
    clear hK K z28 y28
    try go_frame
    generalize v27.setCell ⟨v20.heap.size, 0, none⟩ (.slice none 0 0) = v28 at *
    refine wpAnyH_done (by kernel_rfl) ?_ _
    obtain ⟨bl, hbl⟩ : ∃ b, v10.heap.size = b := ⟨_, rfl⟩
    obtain ⟨ba, hba⟩ : ∃ b, v20.heap.size = b := ⟨_, rfl⟩
    have hLf := hL28
    have hBf := hB28
    have hbf := hH28.1
    rw [hbl] at hLf
    rw [hba] at hBf
    rw [hbl, hba]
    clear hL28 hB28
    go_wp2_with fail
    have K7 : Blk (v28.alloc (.cells #[.func (.func 24) #[] #[.pointer (some ⟨bl, 0, none⟩)], .func (.func 26) #[] #[.pointer (some ⟨bl, 0, none⟩), .pointer (some ⟨ba, 0, none⟩)], .func (.func 28) #[] #[.pointer (some ⟨w.heap.size, 0, none⟩), .pointer (some ⟨bl, 0, none⟩)], .func (.func 30) #[] #[.pointer (some ⟨w.heap.size + 1, 0, none⟩), .pointer (some ⟨w.heap.size, 0, none⟩), .pointer (some ⟨ba, 0, none⟩)], .func (.func 32) #[] #[.pointer (some ⟨w.heap.size + 1, 0, none⟩), .pointer (some ⟨w.heap.size, 0, none⟩), .pointer (some ⟨bl, 0, none⟩)], .func (.func 34) #[] #[.pointer (some ⟨ba, 0, none⟩)], .func (.func 36) #[] #[.pointer (some ⟨w.heap.size, 0, none⟩)]] 40)) v28.heap.size 40 #[.func (.func 24) #[] #[.pointer (some ⟨bl, 0, none⟩)], .func (.func 26) #[] #[.pointer (some ⟨bl, 0, none⟩), .pointer (some ⟨ba, 0, none⟩)], .func (.func 28) #[] #[.pointer (some ⟨w.heap.size, 0, none⟩), .pointer (some ⟨bl, 0, none⟩)], .func (.func 30) #[] #[.pointer (some ⟨w.heap.size + 1, 0, none⟩), .pointer (some ⟨w.heap.size, 0, none⟩), .pointer (some ⟨ba, 0, none⟩)], .func (.func 32) #[] #[.pointer (some ⟨w.heap.size + 1, 0, none⟩), .pointer (some ⟨w.heap.size, 0, none⟩), .pointer (some ⟨bl, 0, none⟩)], .func (.func 34) #[] #[.pointer (some ⟨ba, 0, none⟩)], .func (.func 36) #[] #[.pointer (some ⟨w.heap.size, 0, none⟩)]] := Blk.new v28 40 _
    have hA7 : Below v28.heap.size v28 (v28.alloc (.cells #[.func (.func 24) #[] #[.pointer (some ⟨bl, 0, none⟩)], .func (.func 26) #[] #[.pointer (some ⟨bl, 0, none⟩), .pointer (some ⟨ba, 0, none⟩)], .func (.func 28) #[] #[.pointer (some ⟨w.heap.size, 0, none⟩), .pointer (some ⟨bl, 0, none⟩)], .func (.func 30) #[] #[.pointer (some ⟨w.heap.size + 1, 0, none⟩), .pointer (some ⟨w.heap.size, 0, none⟩), .pointer (some ⟨ba, 0, none⟩)], .func (.func 32) #[] #[.pointer (some ⟨w.heap.size + 1, 0, none⟩), .pointer (some ⟨w.heap.size, 0, none⟩), .pointer (some ⟨bl, 0, none⟩)], .func (.func 34) #[] #[.pointer (some ⟨ba, 0, none⟩)], .func (.func 36) #[] #[.pointer (some ⟨w.heap.size, 0, none⟩)]] 40)) := below_alloc (Below.refl _ _) _
    have hL7 := Blk.call hLf hA7
    have hB7 := Blk.call hBf hA7
    have hb7 := below_chain hA7 hbf
    generalize v28.alloc (.cells #[.func (.func 24) #[] #[.pointer (some ⟨bl, 0, none⟩)], .func (.func 26) #[] #[.pointer (some ⟨bl, 0, none⟩), .pointer (some ⟨ba, 0, none⟩)], .func (.func 28) #[] #[.pointer (some ⟨w.heap.size, 0, none⟩), .pointer (some ⟨bl, 0, none⟩)], .func (.func 30) #[] #[.pointer (some ⟨w.heap.size + 1, 0, none⟩), .pointer (some ⟨w.heap.size, 0, none⟩), .pointer (some ⟨ba, 0, none⟩)], .func (.func 32) #[] #[.pointer (some ⟨w.heap.size + 1, 0, none⟩), .pointer (some ⟨w.heap.size, 0, none⟩), .pointer (some ⟨bl, 0, none⟩)], .func (.func 34) #[] #[.pointer (some ⟨ba, 0, none⟩)], .func (.func 36) #[] #[.pointer (some ⟨w.heap.size, 0, none⟩)]] 40) = W0 at *
    obtain ⟨gs, hgs⟩ : ∃ g, v28.heap.size = g := ⟨_, rfl⟩
    rw [hgs] at K7
    rw [hgs]
    have hp7 := Blk.call hp1.out hb7
    have hs7 := Blk.call hs1.out hb7
    have hbW := below_chain hb7 hb1.out
    have hszW := hbW.size
    clear hLf hBf hbf hA7 hb7
    go_loopw [8, 27] (fun s i wr => ∃ (j : Nat) (B : Option Addr) (k : Nat), j ≤ 7 ∧ i = .int .i64 (j : Nat) ∧ s = .slice B (oL r j).length k ∧ OwnI wr W0.heap.size B k (oL r j) ∧ Below W0.heap.size W0 wr) (fun _ i _ => 7 - (intOf i).toNat)
    case atStart => exact ⟨0, none, 0, by omega, rfl, by cases r <;> rfl, by cases r <;> exact OwnA.nil _ _, Below.refl _ _⟩
    case round =>
     obtain ⟨j, B, k, hj, rfl, rfl, hO, hb⟩ := hrel
     have hbr := below_chain hb hbW
     replace hO := Lib.hid hO
     have hdone : j = 0 ∨ j = 1 ∨ j = 2 ∨ j = 3 ∨ j = 4 ∨ j = 5 ∨ j = 6 ∨ j = 7 := by omega
     rcases hdone with rfl | rfl | rfl | rfl | rfl | rfl | rfl | rfl
     ·
      have c9 : wr.cell? ⟨gs, 0, none⟩ = some (.func (.func 24) #[] #[.pointer (some ⟨bl, 0, none⟩)]) := (K7.call hb).cell 0
      have q := Lib.hid (chk1 (hL7.call hb) false (EN A d _ hbr))
      go_wp2_with (go_at_call 24; (refine q.out.mono ?_); rintro e w9 ⟨rfl, hb9⟩)
      go_roundw
      case rel => exact ⟨1, B, k, by omega, rfl, by cases r <;> rfl, by have h := OwnA.call hO.out hb9; cases r <;> exact h, below_chain hb9 hb⟩
      case measure => simp [intOf]
     ·
      have c9 : wr.cell? ⟨gs, 1, none⟩ = some (.func (.func 26) #[] #[.pointer (some ⟨bl, 0, none⟩), .pointer (some ⟨ba, 0, none⟩)]) := (K7.call hb).cell 1
      have q := Lib.hid (chk2 (hL7.call hb) (hB7.call hb) false (ST A d _ hbr))
      go_wp2_with (go_at_call 26; (refine q.out.mono ?_); rintro e w9 ⟨rfl, hb9⟩)
      go_roundw
      case rel => exact ⟨2, B, k, by omega, rfl, by cases r <;> rfl, by have h := OwnA.call hO.out hb9; cases r <;> exact h, below_chain hb9 hb⟩
      case measure => simp [intOf]
     ·
      have c9 : wr.cell? ⟨gs, 2, none⟩ = some (.func (.func 28) #[] #[.pointer (some ⟨w.heap.size, 0, none⟩), .pointer (some ⟨bl, 0, none⟩)]) := (K7.call hb).cell 2
      have q := Lib.hid (chk3 (hp7.call hb) (hL7.call hb) false (TW A d _ hbr))
      go_wp2_with (go_at_call 28; (refine q.out.mono ?_); rintro e w9 ⟨rfl, hb9⟩)
      go_roundw
      case rel => exact ⟨3, B, k, by omega, rfl, by cases r <;> rfl, by have h := OwnA.call hO.out hb9; cases r <;> exact h, below_chain hb9 hb⟩
      case measure => simp [intOf]
     ·
      have c9 : wr.cell? ⟨gs, 3, none⟩ = some (.func (.func 30) #[] #[.pointer (some ⟨w.heap.size + 1, 0, none⟩), .pointer (some ⟨w.heap.size, 0, none⟩), .pointer (some ⟨ba, 0, none⟩)]) := (K7.call hb).cell 3
      have q := Lib.hid (chk4 (hs7.call hb) (hp7.call hb) (hB7.call hb) false (LD _ hbr))
      go_wp2_with (go_at_call 30; (refine q.out.mono ?_); rintro e w9 ⟨rfl, hb9⟩)
      go_roundw
      case rel => exact ⟨4, B, k, by omega, rfl, by cases r <;> rfl, by have h := OwnA.call hO.out hb9; cases r <;> exact h, below_chain hb9 hb⟩
      case measure => simp [intOf]
     ·
      have c9 : wr.cell? ⟨gs, 4, none⟩ = some (.func (.func 32) #[] #[.pointer (some ⟨w.heap.size + 1, 0, none⟩), .pointer (some ⟨w.heap.size, 0, none⟩), .pointer (some ⟨bl, 0, none⟩)]) := (K7.call hb).cell 4
      have q := Lib.hid (chk5 (hs7.call hb) (hp7.call hb) (hL7.call hb) r (SL A d _ hbr))
      cases r
      ·
       go_wp2_with (go_at_call 32; (refine q.out.mono ?_); rintro e w9 ⟨rfl, hb9⟩)
       go_roundw
       case rel => exact ⟨5, B, k, by omega, rfl, rfl, OwnA.call hO.out hb9, below_chain hb9 hb⟩
       case measure => simp [intOf]
      ·
       go_wp2_with (first | (go_at_call 32; (refine q.out.mono ?_); rintro e w9 ⟨rfl, hb9⟩; have hO9 := Lib.hid (OwnA.call hO.out hb9); have hb9w := below_chain hb9 hb; have hz9 := hb9w.size) | (at_builtin; refine wpList_push_int rfl (.tmp 34) (.tmp 37) rfl W0.heap.size B k (oL true 4) _ rfl rfl hO9.out _ rfl rfl (by decide) hz9 ?_; intro A2 p2 w7 ho7 hp7))
       have hS7 := hp7.below (w0 := W0) (B := W0.heap.size) hb9w hz9 (fun b hb => (hO9.out.block hb).1)
       replace ho7 := Lib.hid ho7
       go_wp2_with fail
       go_roundw
       case rel => exact ⟨5, A2, p2, by omega, rfl, rfl, ho7.out, hS7⟩
       case measure => simp [intOf]
     ·
      have c9 : wr.cell? ⟨gs, 5, none⟩ = some (.func (.func 34) #[] #[.pointer (some ⟨ba, 0, none⟩)]) := (K7.call hb).cell 5
      have q := Lib.hid (chk6 (hB7.call hb) false (OR _ hbr))
      go_wp2_with (go_at_call 34; (refine q.out.mono ?_); rintro e w9 ⟨rfl, hb9⟩)
      go_roundw
      case rel => exact ⟨6, B, k, by omega, rfl, by cases r <;> rfl, by have h := OwnA.call hO.out hb9; cases r <;> exact h, below_chain hb9 hb⟩
      case measure => simp [intOf]
     ·
      have c9 : wr.cell? ⟨gs, 6, none⟩ = some (.func (.func 36) #[] #[.pointer (some ⟨w.heap.size, 0, none⟩)]) := (K7.call hb).cell 6
      have q := Lib.hid (chk7 (hp7.call hb) BV false (BD _ hbr) (fun w9 h9 => BO w9 (below_chain h9 hbr)))
      go_wp2_with (go_at_call 36; (refine q.out.mono ?_); rintro e w9 ⟨rfl, hb9⟩)
      go_roundw
      case rel => exact ⟨7, B, k, by omega, rfl, by cases r <;> rfl, by have h := OwnA.call hO.out hb9; cases r <;> exact h, below_chain hb9 hb⟩
      case measure => simp [intOf]
     ·
      go_wp2_with fail
      go_ret
      exact ⟨B, k, rfl, ⟨hO.out.1, hO.out.2.imp (fun x => x) fun ⟨g, cap, cur, a, b, c⟩ => ⟨g, cap, cur, a, Nat.le_trans hszW b, c⟩⟩, hbr⟩
  refine consH rfl (fun K hK => ?_) AllReadyH.nil
  ·
   go_simp
   have hbA29 : Below v10.heap.size v10 (v10.alloc (.cells #[.slice none 0 0] 78)) := below_alloc (Below.refl _ _) _
   have hB29 : Blk (v10.alloc (.cells #[.slice none 0 0] 78)) v10.heap.size 78 #[.slice none 0 0] := Blk.new v10 78 #[.slice none 0 0]
   have gba29 : w1.heap.size ≤ v10.heap.size := hH10.1.size
   have hbS29 := below_chain hbA29 hH10.1
   refine hK.out _ _ ⟨hbS29, hC.out _ hbS29⟩ (fun hH29 => ?_)
   clear hK K
   try go_frame
   generalize v10.alloc (.cells #[.slice none 0 0] 78) = v29 at *
   refine wpAnyH_ready (rs := [3, 4]) (by kernel_rfl) (by simp) ?_
   refine consH rfl (fun K hK => ?_) ?_
   ·
    go_simp
    (go_at_call 23; (with_reducible refine (LS.out _ (below_chain hH29.1 hb1.out)).mono ?_))
    rintro e v30 ⟨rfl, hb30⟩
    have hbS30 := below_chain hb30 hH29.1
    have hB30 := Blk.call hB29 hb30
    refine hK.out _ _ ⟨hbS30, hC.out _ hbS30⟩ (fun hH30 => ?_)
    clear hK K
    try go_frame
    refine wpAnyH_ready (rs := [4]) (by kernel_rfl) (by simp) ?_
    refine consH rfl (fun K hK => ?_) AllReadyH.nil
    go_simp
    have hbA31 : Below v30.heap.size v30 (v30.alloc (.cells #[.slice none 0 0] 76)) := below_alloc (Below.refl _ _) _
    have hL31 : Blk (v30.alloc (.cells #[.slice none 0 0] 76)) v30.heap.size 76 #[.slice none 0 0] := Blk.new v30 76 #[.slice none 0 0]
    have gbl31 : w1.heap.size ≤ v30.heap.size := hH30.1.size
    have hB31 := Blk.call hB30 hbA31
    have hne : ¬ v10.heap.size = v30.heap.size := Nat.ne_of_lt (Blk.lt hB30)
    have hbS31 := below_chain hbA31 hH30.1
    refine hK.out _ _ ⟨hbS31, hC.out _ hbS31⟩ (fun hH31 => ?_)
    clear hK K
    try go_frame
    generalize v30.alloc (.cells #[.slice none 0 0] 76) = v31 at *
    refine wpAnyH_ready (rs := [6]) (by kernel_rfl) (by simp) ?_
    refine consH rfl (fun K hK => ?_) AllReadyH.nil
    have z32 : v31.cell? ⟨v30.heap.size, 0, none⟩ = some (.slice none 0 0) := Blk.cell hL31 0
    have y32 : v31.frozen? ⟨v30.heap.size, 0, none⟩ = false := Blk.frozen hL31 0
    go_simp
    have hL32 := put_at hL31 0 (.slice A 0 d)
    have hB32 := put_off hB31 (fun h => hne h.symm) 0 (.slice A 0 d)
    have hbS32 : Below w1.heap.size w1 (v31.setCell ⟨v30.heap.size, 0, none⟩ (.slice A 0 d)) := Below.setCell hH31.1 gbl31 _
    refine hK.out _ _ ⟨hbS32, hC.out _ hbS32⟩ (fun hH32 => ?_)
    clear hK K z32 y32
    try go_frame
    generalize v31.setCell ⟨v30.heap.size, 0, none⟩ (.slice A 0 d) = v32 at *
    refine wpAnyH_ready (rs := [7]) (by kernel_rfl) (by simp) ?_
    refine consH rfl (fun K hK => ?_) AllReadyH.nil
    have z33 : v32.cell? ⟨v10.heap.size, 0, none⟩ = some (.slice none 0 0) := Blk.cell hB32 0
    have y33 : v32.frozen? ⟨v10.heap.size, 0, none⟩ = false := Blk.frozen hB32 0
    go_simp
    have hB33 := put_at hB32 0 (.slice none 0 0)
    have hL33 := put_off hL32 (fun h => (fun h => hne h.symm) h.symm) 0 (.slice none 0 0)
    have hbS33 : Below w1.heap.size w1 (v32.setCell ⟨v10.heap.size, 0, none⟩ (.slice none 0 0)) := Below.setCell hH32.1 gba29 _
    refine hK.out _ _ ⟨hbS33, hC.out _ hbS33⟩ (fun hH33 => ?_)
    clear hK K z33 y33
    try go_frame
    generalize v32.setCell ⟨v10.heap.size, 0, none⟩ (.slice none 0 0) = v33 at *
    refine wpAnyH_done (by kernel_rfl) ?_ _
    obtain ⟨bl, hbl⟩ : ∃ b, v30.heap.size = b := ⟨_, rfl⟩
    obtain ⟨ba, hba⟩ : ∃ b, v10.heap.size = b := ⟨_, rfl⟩
    have hLf := hL33
    have hBf := hB33
    have hbf := hH33.1
    rw [hbl] at hLf
    rw [hba] at hBf
    rw [hbl, hba]
    clear hL33 hB33
    go_wp2_with fail
    have K7 : Blk (v33.alloc (.cells #[.func (.func 24) #[] #[.pointer (some ⟨bl, 0, none⟩)], .func (.func 26) #[] #[.pointer (some ⟨bl, 0, none⟩), .pointer (some ⟨ba, 0, none⟩)], .func (.func 28) #[] #[.pointer (some ⟨w.heap.size, 0, none⟩), .pointer (some ⟨bl, 0, none⟩)], .func (.func 30) #[] #[.pointer (some ⟨w.heap.size + 1, 0, none⟩), .pointer (some ⟨w.heap.size, 0, none⟩), .pointer (some ⟨ba, 0, none⟩)], .func (.func 32) #[] #[.pointer (some ⟨w.heap.size + 1, 0, none⟩), .pointer (some ⟨w.heap.size, 0, none⟩), .pointer (some ⟨bl, 0, none⟩)], .func (.func 34) #[] #[.pointer (some ⟨ba, 0, none⟩)], .func (.func 36) #[] #[.pointer (some ⟨w.heap.size, 0, none⟩)]] 40)) v33.heap.size 40 #[.func (.func 24) #[] #[.pointer (some ⟨bl, 0, none⟩)], .func (.func 26) #[] #[.pointer (some ⟨bl, 0, none⟩), .pointer (some ⟨ba, 0, none⟩)], .func (.func 28) #[] #[.pointer (some ⟨w.heap.size, 0, none⟩), .pointer (some ⟨bl, 0, none⟩)], .func (.func 30) #[] #[.pointer (some ⟨w.heap.size + 1, 0, none⟩), .pointer (some ⟨w.heap.size, 0, none⟩), .pointer (some ⟨ba, 0, none⟩)], .func (.func 32) #[] #[.pointer (some ⟨w.heap.size + 1, 0, none⟩), .pointer (some ⟨w.heap.size, 0, none⟩), .pointer (some ⟨bl, 0, none⟩)], .func (.func 34) #[] #[.pointer (some ⟨ba, 0, none⟩)], .func (.func 36) #[] #[.pointer (some ⟨w.heap.size, 0, none⟩)]] := Blk.new v33 40 _
    have hA7 : Below v33.heap.size v33 (v33.alloc (.cells #[.func (.func 24) #[] #[.pointer (some ⟨bl, 0, none⟩)], .func (.func 26) #[] #[.pointer (some ⟨bl, 0, none⟩), .pointer (some ⟨ba, 0, none⟩)], .func (.func 28) #[] #[.pointer (some ⟨w.heap.size, 0, none⟩), .pointer (some ⟨bl, 0, none⟩)], .func (.func 30) #[] #[.pointer (some ⟨w.heap.size + 1, 0, none⟩), .pointer (some ⟨w.heap.size, 0, none⟩), .pointer (some ⟨ba, 0, none⟩)], .func (.func 32) #[] #[.pointer (some ⟨w.heap.size + 1, 0, none⟩), .pointer (some ⟨w.heap.size, 0, none⟩), .pointer (some ⟨bl, 0, none⟩)], .func (.func 34) #[] #[.pointer (some ⟨ba, 0, none⟩)], .func (.func 36) #[] #[.pointer (some ⟨w.heap.size, 0, none⟩)]] 40)) := below_alloc (Below.refl _ _) _
    have hL7 := Blk.call hLf hA7
    have hB7 := Blk.call hBf hA7
    have hb7 := below_chain hA7 hbf
    generalize v33.alloc (.cells #[.func (.func 24) #[] #[.pointer (some ⟨bl, 0, none⟩)], .func (.func 26) #[] #[.pointer (some ⟨bl, 0, none⟩), .pointer (some ⟨ba, 0, none⟩)], .func (.func 28) #[] #[.pointer (some ⟨w.heap.size, 0, none⟩), .pointer (some ⟨bl, 0, none⟩)], .func (.func 30) #[] #[.pointer (some ⟨w.heap.size + 1, 0, none⟩), .pointer (some ⟨w.heap.size, 0, none⟩), .pointer (some ⟨ba, 0, none⟩)], .func (.func 32) #[] #[.pointer (some ⟨w.heap.size + 1, 0, none⟩), .pointer (some ⟨w.heap.size, 0, none⟩), .pointer (some ⟨bl, 0, none⟩)], .func (.func 34) #[] #[.pointer (some ⟨ba, 0, none⟩)], .func (.func 36) #[] #[.pointer (some ⟨w.heap.size, 0, none⟩)]] 40) = W0 at *
    obtain ⟨gs, hgs⟩ : ∃ g, v33.heap.size = g := ⟨_, rfl⟩
    rw [hgs] at K7
    rw [hgs]
    have hp7 := Blk.call hp1.out hb7
    have hs7 := Blk.call hs1.out hb7
    have hbW := below_chain hb7 hb1.out
    have hszW := hbW.size
    clear hLf hBf hbf hA7 hb7
    go_loopw [8, 27] (fun s i wr => ∃ (j : Nat) (B : Option Addr) (k : Nat), j ≤ 7 ∧ i = .int .i64 (j : Nat) ∧ s = .slice B (oL r j).length k ∧ OwnI wr W0.heap.size B k (oL r j) ∧ Below W0.heap.size W0 wr) (fun _ i _ => 7 - (intOf i).toNat)
    case atStart => exact ⟨0, none, 0, by omega, rfl, by cases r <;> rfl, by cases r <;> exact OwnA.nil _ _, Below.refl _ _⟩
    case round =>
     obtain ⟨j, B, k, hj, rfl, rfl, hO, hb⟩ := hrel
     have hbr := below_chain hb hbW
     replace hO := Lib.hid hO
     have hdone : j = 0 ∨ j = 1 ∨ j = 2 ∨ j = 3 ∨ j = 4 ∨ j = 5 ∨ j = 6 ∨ j = 7 := by omega
     rcases hdone with rfl | rfl | rfl | rfl | rfl | rfl | rfl | rfl
     ·
      have c9 : wr.cell? ⟨gs, 0, none⟩ = some (.func (.func 24) #[] #[.pointer (some ⟨bl, 0, none⟩)]) := (K7.call hb).cell 0
      have q := Lib.hid (chk1 (hL7.call hb) false (EN A d _ hbr))
      go_wp2_with (go_at_call 24; (refine q.out.mono ?_); rintro e w9 ⟨rfl, hb9⟩)
      go_roundw
      case rel => exact ⟨1, B, k, by omega, rfl, by cases r <;> rfl, by have h := OwnA.call hO.out hb9; cases r <;> exact h, below_chain hb9 hb⟩
      case measure => simp [intOf]
     ·
      have c9 : wr.cell? ⟨gs, 1, none⟩ = some (.func (.func 26) #[] #[.pointer (some ⟨bl, 0, none⟩), .pointer (some ⟨ba, 0, none⟩)]) := (K7.call hb).cell 1
      have q := Lib.hid (chk2 (hL7.call hb) (hB7.call hb) false (ST A d _ hbr))
      go_wp2_with (go_at_call 26; (refine q.out.mono ?_); rintro e w9 ⟨rfl, hb9⟩)
      go_roundw
      case rel => exact ⟨2, B, k, by omega, rfl, by cases r <;> rfl, by have h := OwnA.call hO.out hb9; cases r <;> exact h, below_chain hb9 hb⟩
      case measure => simp [intOf]
     ·
      have c9 : wr.cell? ⟨gs, 2, none⟩ = some (.func (.func 28) #[] #[.pointer (some ⟨w.heap.size, 0, none⟩), .pointer (some ⟨bl, 0, none⟩)]) := (K7.call hb).cell 2
      have q := Lib.hid (chk3 (hp7.call hb) (hL7.call hb) false (TW A d _ hbr))
      go_wp2_with (go_at_call 28; (refine q.out.mono ?_); rintro e w9 ⟨rfl, hb9⟩)
      go_roundw
      case rel => exact ⟨3, B, k, by omega, rfl, by cases r <;> rfl, by have h := OwnA.call hO.out hb9; cases r <;> exact h, below_chain hb9 hb⟩
      case measure => simp [intOf]
     ·
      have c9 : wr.cell? ⟨gs, 3, none⟩ = some (.func (.func 30) #[] #[.pointer (some ⟨w.heap.size + 1, 0, none⟩), .pointer (some ⟨w.heap.size, 0, none⟩), .pointer (some ⟨ba, 0, none⟩)]) := (K7.call hb).cell 3
      have q := Lib.hid (chk4 (hs7.call hb) (hp7.call hb) (hB7.call hb) false (LD _ hbr))
      go_wp2_with (go_at_call 30; (refine q.out.mono ?_); rintro e w9 ⟨rfl, hb9⟩)
      go_roundw
      case rel => exact ⟨4, B, k, by omega, rfl, by cases r <;> rfl, by have h := OwnA.call hO.out hb9; cases r <;> exact h, below_chain hb9 hb⟩
      case measure => simp [intOf]
     ·
      have c9 : wr.cell? ⟨gs, 4, none⟩ = some (.func (.func 32) #[] #[.pointer (some ⟨w.heap.size + 1, 0, none⟩), .pointer (some ⟨w.heap.size, 0, none⟩), .pointer (some ⟨bl, 0, none⟩)]) := (K7.call hb).cell 4
      have q := Lib.hid (chk5 (hs7.call hb) (hp7.call hb) (hL7.call hb) r (SL A d _ hbr))
      cases r
      ·
       go_wp2_with (go_at_call 32; (refine q.out.mono ?_); rintro e w9 ⟨rfl, hb9⟩)
       go_roundw
       case rel => exact ⟨5, B, k, by omega, rfl, rfl, OwnA.call hO.out hb9, below_chain hb9 hb⟩
       case measure => simp [intOf]
      ·
       go_wp2_with (first | (go_at_call 32; (refine q.out.mono ?_); rintro e w9 ⟨rfl, hb9⟩; have hO9 := Lib.hid (OwnA.call hO.out hb9); have hb9w := below_chain hb9 hb; have hz9 := hb9w.size) | (at_builtin; refine wpList_push_int rfl (.tmp 34) (.tmp 37) rfl W0.heap.size B k (oL true 4) _ rfl rfl hO9.out _ rfl rfl (by decide) hz9 ?_; intro A2 p2 w7 ho7 hp7))
       have hS7 := hp7.below (w0 := W0) (B := W0.heap.size) hb9w hz9 (fun b hb => (hO9.out.block hb).1)
       replace ho7 := Lib.hid ho7
       go_wp2_with fail
       go_roundw
       case rel => exact ⟨5, A2, p2, by omega, rfl, rfl, ho7.out, hS7⟩
       case measure => simp [intOf]
     ·
      have c9 : wr.cell? ⟨gs, 5, none⟩ = some (.func (.func 34) #[] #[.pointer (some ⟨ba, 0, none⟩)]) := (K7.call hb).cell 5
      have q := Lib.hid (chk6 (hB7.call hb) false (OR _ hbr))
      go_wp2_with (go_at_call 34; (refine q.out.mono ?_); rintro e w9 ⟨rfl, hb9⟩)
      go_roundw
      case rel => exact ⟨6, B, k, by omega, rfl, by cases r <;> rfl, by have h := OwnA.call hO.out hb9; cases r <;> exact h, below_chain hb9 hb⟩
      case measure => simp [intOf]
     ·
      have c9 : wr.cell? ⟨gs, 6, none⟩ = some (.func (.func 36) #[] #[.pointer (some ⟨w.heap.size, 0, none⟩)]) := (K7.call hb).cell 6
      have q := Lib.hid (chk7 (hp7.call hb) BV false (BD _ hbr) (fun w9 h9 => BO w9 (below_chain h9 hbr)))
      go_wp2_with (go_at_call 36; (refine q.out.mono ?_); rintro e w9 ⟨rfl, hb9⟩)
      go_roundw
      case rel => exact ⟨7, B, k, by omega, rfl, by cases r <;> rfl, by have h := OwnA.call hO.out hb9; cases r <;> exact h, below_chain hb9 hb⟩
      case measure => simp [intOf]
     ·
      go_wp2_with fail
      go_ret
      exact ⟨B, k, rfl, ⟨hO.out.1, hO.out.2.imp (fun x => x) fun ⟨g, cap, cur, a, b, c⟩ => ⟨g, cap, cur, a, Nat.le_trans hszW b, c⟩⟩, hbr⟩
   refine consH rfl (fun K hK => ?_) AllReadyH.nil
   ·
    go_simp
    have hbA34 : Below v29.heap.size v29 (v29.alloc (.cells #[.slice none 0 0] 76)) := below_alloc (Below.refl _ _) _
    have hL34 : Blk (v29.alloc (.cells #[.slice none 0 0] 76)) v29.heap.size 76 #[.slice none 0 0] := Blk.new v29 76 #[.slice none 0 0]
    have gbl34 : w1.heap.size ≤ v29.heap.size := hH29.1.size
    have hB34 := Blk.call hB29 hbA34
    have hne : ¬ v10.heap.size = v29.heap.size := Nat.ne_of_lt (Blk.lt hB29)
    have hbS34 := below_chain hbA34 hH29.1
    refine hK.out _ _ ⟨hbS34, hC.out _ hbS34⟩ (fun hH34 => ?_)
    clear hK K
    try go_frame
    generalize v29.alloc (.cells #[.slice none 0 0] 76) = v34 at *
    refine wpAnyH_ready (rs := [3]) (by kernel_rfl) (by simp) ?_
    refine consH rfl (fun K hK => ?_) AllReadyH.nil
    go_simp
    (go_at_call 23; (with_reducible refine (LS.out _ (below_chain hH34.1 hb1.out)).mono ?_))
    rintro e v35 ⟨rfl, hb35⟩
    have hbS35 := below_chain hb35 hH34.1
    have hL35 := Blk.call hL34 hb35
    have hB35 := Blk.call hB34 hb35
    refine hK.out _ _ ⟨hbS35, hC.out _ hbS35⟩ (fun hH35 => ?_)
    clear hK K
    try go_frame
    refine wpAnyH_ready (rs := [6]) (by kernel_rfl) (by simp) ?_
    refine consH rfl (fun K hK => ?_) AllReadyH.nil
    have z36 : v35.cell? ⟨v29.heap.size, 0, none⟩ = some (.slice none 0 0) := Blk.cell hL35 0
    have y36 : v35.frozen? ⟨v29.heap.size, 0, none⟩ = false := Blk.frozen hL35 0
    go_simp
    have hL36 := put_at hL35 0 (.slice A 0 d)
    have hB36 := put_off hB35 (fun h => hne h.symm) 0 (.slice A 0 d)
    have hbS36 : Below w1.heap.size w1 (v35.setCell ⟨v29.heap.size, 0, none⟩ (.slice A 0 d)) := Below.setCell hH35.1 gbl34 _
    refine hK.out _ _ ⟨hbS36, hC.out _ hbS36⟩ (fun hH36 => ?_)
    clear hK K z36 y36
    try go_frame
    generalize v35.setCell ⟨v29.heap.size, 0, none⟩ (.slice A 0 d) = v36 at *
    refine wpAnyH_ready (rs := [7]) (by kernel_rfl) (by simp) ?_
    refine consH rfl (fun K hK => ?_) AllReadyH.nil
    have z37 : v36.cell? ⟨v10.heap.size, 0, none⟩ = some (.slice none 0 0) := Blk.cell hB36 0
    have y37 : v36.frozen? ⟨v10.heap.size, 0, none⟩ = false := Blk.frozen hB36 0
    go_simp
    have hB37 := put_at hB36 0 (.slice none 0 0)
    have hL37 := put_off hL36 (fun h => (fun h => hne h.symm) h.symm) 0 (.slice none 0 0)
    have hbS37 : Below w1.heap.size w1 (v36.setCell ⟨v10.heap.size, 0, none⟩ (.slice none 0 0)) := Below.setCell hH36.1 gba29 _
    refine hK.out _ _ ⟨hbS37, hC.out _ hbS37⟩ (fun hH37 => ?_)
    clear hK K z37 y37
    try go_frame
    generalize v36.setCell ⟨v10.heap.size, 0, none⟩ (.slice none 0 0) = v37 at *
    refine wpAnyH_done (by kernel_rfl) ?_ _
    obtain ⟨bl, hbl⟩ : ∃ b, v29.heap.size = b := ⟨_, rfl⟩
    obtain ⟨ba, hba⟩ : ∃ b, v10.heap.size = b := ⟨_, rfl⟩
    have hLf := hL37
    have hBf := hB37
    have hbf := hH37.1
    rw [hbl] at hLf
    rw [hba] at hBf
    rw [hbl, hba]
    clear hL37 hB37
    go_wp2_with fail
    have K7 : Blk (v37.alloc (.cells #[.func (.func 24) #[] #[.pointer (some ⟨bl, 0, none⟩)], .func (.func 26) #[] #[.pointer (some ⟨bl, 0, none⟩), .pointer (some ⟨ba, 0, none⟩)], .func (.func 28) #[] #[.pointer (some ⟨w.heap.size, 0, none⟩), .pointer (some ⟨bl, 0, none⟩)], .func (.func 30) #[] #[.pointer (some ⟨w.heap.size + 1, 0, none⟩), .pointer (some ⟨w.heap.size, 0, none⟩), .pointer (some ⟨ba, 0, none⟩)], .func (.func 32) #[] #[.pointer (some ⟨w.heap.size + 1, 0, none⟩), .pointer (some ⟨w.heap.size, 0, none⟩), .pointer (some ⟨bl, 0, none⟩)], .func (.func 34) #[] #[.pointer (some ⟨ba, 0, none⟩)], .func (.func 36) #[] #[.pointer (some ⟨w.heap.size, 0, none⟩)]] 40)) v37.heap.size 40 #[.func (.func 24) #[] #[.pointer (some ⟨bl, 0, none⟩)], .func (.func 26) #[] #[.pointer (some ⟨bl, 0, none⟩), .pointer (some ⟨ba, 0, none⟩)], .func (.func 28) #[] #[.pointer (some ⟨w.heap.size, 0, none⟩), .pointer (some ⟨bl, 0, none⟩)], .func (.func 30) #[] #[.pointer (some ⟨w.heap.size + 1, 0, none⟩), .pointer (some ⟨w.heap.size, 0, none⟩), .pointer (some ⟨ba, 0, none⟩)], .func (.func 32) #[] #[.pointer (some ⟨w.heap.size + 1, 0, none⟩), .pointer (some ⟨w.heap.size, 0, none⟩), .pointer (some ⟨bl, 0, none⟩)], .func (.func 34) #[] #[.pointer (some ⟨ba, 0, none⟩)], .func (.func 36) #[] #[.pointer (some ⟨w.heap.size, 0, none⟩)]] := Blk.new v37 40 _
    have hA7 : Below v37.heap.size v37 (v37.alloc (.cells #[.func (.func 24) #[] #[.pointer (some ⟨bl, 0, none⟩)], .func (.func 26) #[] #[.pointer (some ⟨bl, 0, none⟩), .pointer (some ⟨ba, 0, none⟩)], .func (.func 28) #[] #[.pointer (some ⟨w.heap.size, 0, none⟩), .pointer (some ⟨bl, 0, none⟩)], .func (.func 30) #[] #[.pointer (some ⟨w.heap.size + 1, 0, none⟩), .pointer (some ⟨w.heap.size, 0, none⟩), .pointer (some ⟨ba, 0, none⟩)], .func (.func 32) #[] #[.pointer (some ⟨w.heap.size + 1, 0, none⟩), .pointer (some ⟨w.heap.size, 0, none⟩), .pointer (some ⟨bl, 0, none⟩)], .func (.func 34) #[] #[.pointer (some ⟨ba, 0, none⟩)], .func (.func 36) #[] #[.pointer (some ⟨w.heap.size, 0, none⟩)]] 40)) := below_alloc (Below.refl _ _) _
    have hL7 := Blk.call hLf hA7
    have hB7 := Blk.call hBf hA7
    have hb7 := below_chain hA7 hbf
    generalize v37.alloc (.cells #[.func (.func 24) #[] #[.pointer (some ⟨bl, 0, none⟩)], .func (.func 26) #[] #[.pointer (some ⟨bl, 0, none⟩), .pointer (some ⟨ba, 0, none⟩)], .func (.func 28) #[] #[.pointer (some ⟨w.heap.size, 0, none⟩), .pointer (some ⟨bl, 0, none⟩)], .func (.func 30) #[] #[.pointer (some ⟨w.heap.size + 1, 0, none⟩), .pointer (some ⟨w.heap.size, 0, none⟩), .pointer (some ⟨ba, 0, none⟩)], .func (.func 32) #[] #[.pointer (some ⟨w.heap.size + 1, 0, none⟩), .pointer (some ⟨w.heap.size, 0, none⟩), .pointer (some ⟨bl, 0, none⟩)], .func (.func 34) #[] #[.pointer (some ⟨ba, 0, none⟩)], .func (.func 36) #[] #[.pointer (some ⟨w.heap.size, 0, none⟩)]] 40) = W0 at *
    obtain ⟨gs, hgs⟩ : ∃ g, v37.heap.size = g := ⟨_, rfl⟩
    rw [hgs] at K7
    rw [hgs]
    have hp7 := Blk.call hp1.out hb7
    have hs7 := Blk.call hs1.out hb7
    have hbW := below_chain hb7 hb1.out
    have hszW := hbW.size
    clear hLf hBf hbf hA7 hb7
    go_loopw [8, 27] (fun s i wr => ∃ (j : Nat) (B : Option Addr) (k : Nat), j ≤ 7 ∧ i = .int .i64 (j : Nat) ∧ s = .slice B (oL r j).length k ∧ OwnI wr W0.heap.size B k (oL r j) ∧ Below W0.heap.size W0 wr) (fun _ i _ => 7 - (intOf i).toNat)
    case atStart => exact ⟨0, none, 0, by omega, rfl, by cases r <;> rfl, by cases r <;> exact OwnA.nil _ _, Below.refl _ _⟩
    case round =>
     obtain ⟨j, B, k, hj, rfl, rfl, hO, hb⟩ := hrel
     have hbr := below_chain hb hbW
     replace hO := Lib.hid hO
     have hdone : j = 0 ∨ j = 1 ∨ j = 2 ∨ j = 3 ∨ j = 4 ∨ j = 5 ∨ j = 6 ∨ j = 7 := by omega
     rcases hdone with rfl | rfl | rfl | rfl | rfl | rfl | rfl | rfl
     ·
      have c9 : wr.cell? ⟨gs, 0, none⟩ = some (.func (.func 24) #[] #[.pointer (some ⟨bl, 0, none⟩)]) := (K7.call hb).cell 0
      have q := Lib.hid (chk1 (hL7.call hb) false (EN A d _ hbr))
      go_wp2_with (go_at_call 24; (refine q.out.mono ?_); rintro e w9 ⟨rfl, hb9⟩)
      go_roundw
      case rel => exact ⟨1, B, k, by omega, rfl, by cases r <;> rfl, by have h := OwnA.call hO.out hb9; cases r <;> exact h, below_chain hb9 hb⟩
      case measure => simp [intOf]
     ·
      have c9 : wr.cell? ⟨gs, 1, none⟩ = some (.func (.func 26) #[] #[.pointer (some ⟨bl, 0, none⟩), .pointer (some ⟨ba, 0, none⟩)]) := (K7.call hb).cell 1
      have q := Lib.hid (chk2 (hL7.call hb) (hB7.call hb) false (ST A d _ hbr))
      go_wp2_with (go_at_call 26; (refine q.out.mono ?_); rintro e w9 ⟨rfl, hb9⟩)
      go_roundw
      case rel => exact ⟨2, B, k, by omega, rfl, by cases r <;> rfl, by have h := OwnA.call hO.out hb9; cases r <;> exact h, below_chain hb9 hb⟩
      case measure => simp [intOf]
     ·
      have c9 : wr.cell? ⟨gs, 2, none⟩ = some (.func (.func 28) #[] #[.pointer (some ⟨w.heap.size, 0, none⟩), .pointer (some ⟨bl, 0, none⟩)]) := (K7.call hb).cell 2
      have q := Lib.hid (chk3 (hp7.call hb) (hL7.call hb) false (TW A d _ hbr))
      go_wp2_with (go_at_call 28; (refine q.out.mono ?_); rintro e w9 ⟨rfl, hb9⟩)
      go_roundw
      case rel => exact ⟨3, B, k, by omega, rfl, by cases r <;> rfl, by have h := OwnA.call hO.out hb9; cases r <;> exact h, below_chain hb9 hb⟩
      case measure => simp [intOf]
     ·
      have c9 : wr.cell? ⟨gs, 3, none⟩ = some (.func (.func 30) #[] #[.pointer (some ⟨w.heap.size + 1, 0, none⟩), .pointer (some ⟨w.heap.size, 0, none⟩), .pointer (some ⟨ba, 0, none⟩)]) := (K7.call hb).cell 3
      have q := Lib.hid (chk4 (hs7.call hb) (hp7.call hb) (hB7.call hb) false (LD _ hbr))
      go_wp2_with (go_at_call 30; (refine q.out.mono ?_); rintro e w9 ⟨rfl, hb9⟩)
      go_roundw
      case rel => exact ⟨4, B, k, by omega, rfl, by cases r <;> rfl, by have h := OwnA.call hO.out hb9; cases r <;> exact h, below_chain hb9 hb⟩
      case measure => simp [intOf]
     ·
      have c9 : wr.cell? ⟨gs, 4, none⟩ = some (.func (.func 32) #[] #[.pointer (some ⟨w.heap.size + 1, 0, none⟩), .pointer (some ⟨w.heap.size, 0, none⟩), .pointer (some ⟨bl, 0, none⟩)]) := (K7.call hb).cell 4
      have q := Lib.hid (chk5 (hs7.call hb) (hp7.call hb) (hL7.call hb) r (SL A d _ hbr))
      cases r
      ·
       go_wp2_with (go_at_call 32; (refine q.out.mono ?_); rintro e w9 ⟨rfl, hb9⟩)
       go_roundw
       case rel => exact ⟨5, B, k, by omega, rfl, rfl, OwnA.call hO.out hb9, below_chain hb9 hb⟩
       case measure => simp [intOf]
      ·
       go_wp2_with (first | (go_at_call 32; (refine q.out.mono ?_); rintro e w9 ⟨rfl, hb9⟩; have hO9 := Lib.hid (OwnA.call hO.out hb9); have hb9w := below_chain hb9 hb; have hz9 := hb9w.size) | (at_builtin; refine wpList_push_int rfl (.tmp 34) (.tmp 37) rfl W0.heap.size B k (oL true 4) _ rfl rfl hO9.out _ rfl rfl (by decide) hz9 ?_; intro A2 p2 w7 ho7 hp7))
       have hS7 := hp7.below (w0 := W0) (B := W0.heap.size) hb9w hz9 (fun b hb => (hO9.out.block hb).1)
       replace ho7 := Lib.hid ho7
       go_wp2_with fail
       go_roundw
       case rel => exact ⟨5, A2, p2, by omega, rfl, rfl, ho7.out, hS7⟩
       case measure => simp [intOf]
     ·
      have c9 : wr.cell? ⟨gs, 5, none⟩ = some (.func (.func 34) #[] #[.pointer (some ⟨ba, 0, none⟩)]) := (K7.call hb).cell 5
      have q := Lib.hid (chk6 (hB7.call hb) false (OR _ hbr))
      go_wp2_with (go_at_call 34; (refine q.out.mono ?_); rintro e w9 ⟨rfl, hb9⟩)
      go_roundw
      case rel => exact ⟨6, B, k, by omega, rfl, by cases r <;> rfl, by have h := OwnA.call hO.out hb9; cases r <;> exact h, below_chain hb9 hb⟩
      case measure => simp [intOf]
     ·
      have c9 : wr.cell? ⟨gs, 6, none⟩ = some (.func (.func 36) #[] #[.pointer (some ⟨w.heap.size, 0, none⟩)]) := (K7.call hb).cell 6
      have q := Lib.hid (chk7 (hp7.call hb) BV false (BD _ hbr) (fun w9 h9 => BO w9 (below_chain h9 hbr)))
      go_wp2_with (go_at_call 36; (refine q.out.mono ?_); rintro e w9 ⟨rfl, hb9⟩)
      go_roundw
      case rel => exact ⟨7, B, k, by omega, rfl, by cases r <;> rfl, by have h := OwnA.call hO.out hb9; cases r <;> exact h, below_chain hb9 hb⟩
      case measure => simp [intOf]
     ·
      go_wp2_with fail
      go_ret
      exact ⟨B, k, rfl, ⟨hO.out.1, hO.out.2.imp (fun x => x) fun ⟨g, cap, cur, a, b, c⟩ => ⟨g, cap, cur, a, Nat.le_trans hszW b, c⟩⟩, hbr⟩
 refine consH rfl (fun K hK => ?_) ?_
 ·
  go_simp
  have hbA38 : Below wd0.heap.size wd0 (wd0.alloc (.cells #[.slice none 0 0] 76)) := below_alloc (Below.refl _ _) _
  have hL38 : Blk (wd0.alloc (.cells #[.slice none 0 0] 76)) wd0.heap.size 76 #[.slice none 0 0] := Blk.new wd0 76 #[.slice none 0 0]
  have gbl38 : w1.heap.size ≤ wd0.heap.size := hH.1.size
  have hbS38 := below_chain hbA38 hH.1
  refine hK.out _ _ ⟨hbS38, hC.out _ hbS38⟩ (fun hH38 => ?_)
  clear hK K
  try go_frame
  generalize wd0.alloc (.cells #[.slice none 0 0] 76) = v38 at *
  refine wpAnyH_ready (rs := [1, 5]) (by kernel_rfl) (by simp) ?_
  refine consH rfl (fun K hK => ?_) ?_
  ·
   go_simp
   (go_at_call 22; (with_reducible refine (LV.out _ (below_chain hH38.1 hb1.out)).mono ?_))
   rintro e v39 ⟨A, d, rfl, hb39⟩
   have hbS39 := below_chain hb39 hH38.1
   have hL39 := Blk.call hL38 hb39
   refine hK.out _ _ ⟨hbS39, hC.out _ hbS39⟩ (fun hH39 => ?_)
   clear hK K
   try go_frame
   refine wpAnyH_ready (rs := [3, 5]) (by kernel_rfl) (by simp) ?_
   refine consH rfl (fun K hK => ?_) ?_
   ·
    go_simp
    (go_at_call 23; (with_reducible refine (LS.out _ (below_chain hH39.1 hb1.out)).mono ?_))
    rintro e v40 ⟨rfl, hb40⟩
    have hbS40 := below_chain hb40 hH39.1
    have hL40 := Blk.call hL39 hb40
    refine hK.out _ _ ⟨hbS40, hC.out _ hbS40⟩ (fun hH40 => ?_)
    clear hK K
    try go_frame
    refine wpAnyH_ready (rs := [5]) (by kernel_rfl) (by simp) ?_
    refine consH rfl (fun K hK => ?_) AllReadyH.nil
    go_simp
    have hbA41 : Below v40.heap.size v40 (v40.alloc (.cells #[.slice none 0 0] 78)) := below_alloc (Below.refl _ _) _
    have hB41 : Blk (v40.alloc (.cells #[.slice none 0 0] 78)) v40.heap.size 78 #[.slice none 0 0] := Blk.new v40 78 #[.slice none 0 0]
    have gba41 : w1.heap.size ≤ v40.heap.size := hH40.1.size
    have hL41 := Blk.call hL40 hbA41
    have hne : ¬ wd0.heap.size = v40.heap.size := Nat.ne_of_lt (Blk.lt hL40)
    have hbS41 := below_chain hbA41 hH40.1
    refine hK.out _ _ ⟨hbS41, hC.out _ hbS41⟩ (fun hH41 => ?_)
    clear hK K
    try go_frame
    generalize v40.alloc (.cells #[.slice none 0 0] 78) = v41 at *
    refine wpAnyH_ready (rs := [6]) (by kernel_rfl) (by simp) ?_
    refine consH rfl (fun K hK => ?_) AllReadyH.nil
    have z42 : v41.cell? ⟨wd0.heap.size, 0, none⟩ = some (.slice none 0 0) := Blk.cell hL41 0
    have y42 : v41.frozen? ⟨wd0.heap.size, 0, none⟩ = false := Blk.frozen hL41 0
    go_simp
    have hL42 := put_at hL41 0 (.slice A 0 d)
    have hB42 := put_off hB41 hne 0 (.slice A 0 d)
    have hbS42 : Below w1.heap.size w1 (v41.setCell ⟨wd0.heap.size, 0, none⟩ (.slice A 0 d)) := Below.setCell hH41.1 gbl38 _
    refine hK.out _ _ ⟨hbS42, hC.out _ hbS42⟩ (fun hH42 => ?_)
    clear hK K z42 y42
    try go_frame
    generalize v41.setCell ⟨wd0.heap.size, 0, none⟩ (.slice A 0 d) = v42 at *
    refine wpAnyH_ready (rs := [7]) (by kernel_rfl) (by simp) ?_
    refine consH rfl (fun K hK => ?_) AllReadyH.nil
    have z43 : v42.cell? ⟨v40.heap.size, 0, none⟩ = some (.slice none 0 0) := Blk.cell hB42 0
    have y43 : v42.frozen? ⟨v40.heap.size, 0, none⟩ = false := Blk.frozen hB42 0
    go_simp
    have hB43 := put_at hB42 0 (.slice none 0 0)
    have hL43 := put_off hL42 (fun h => hne h.symm) 0 (.slice none 0 0)
    have hbS43 : Below w1.heap.size w1 (v42.setCell ⟨v40.heap.size, 0, none⟩ (.slice none 0 0)) := Below.setCell hH42.1 gba41 _
    refine hK.out _ _ ⟨hbS43, hC.out _ hbS43⟩ (fun hH43 => ?_)
    clear hK K z43 y43
    try go_frame
    generalize v42.setCell ⟨v40.heap.size, 0, none⟩ (.slice none 0 0) = v43 at *
    refine wpAnyH_done (by kernel_rfl) ?_ _
    obtain ⟨bl, hbl⟩ : ∃ b, wd0.heap.size = b := ⟨_, rfl⟩
    obtain ⟨ba, hba⟩ : ∃ b, v40.heap.size = b := ⟨_, rfl⟩
    have hLf := hL43
    have hBf := hB43
    have hbf := hH43.1
    rw [hbl] at hLf
    rw [hba] at hBf
    rw [hbl, hba]
    clear hL43 hB43
    go_wp2_with fail
    have K7 : Blk (v43.alloc (.cells #[.func (.func 24) #[] #[.pointer (some ⟨bl, 0, none⟩)], .func (.func 26) #[] #[.pointer (some ⟨bl, 0, none⟩), .pointer (some ⟨ba, 0, none⟩)], .func (.func 28) #[] #[.pointer (some ⟨w.heap.size, 0, none⟩), .pointer (some ⟨bl, 0, none⟩)], .func (.func 30) #[] #[.pointer (some ⟨w.heap.size + 1, 0, none⟩), .pointer (some ⟨w.heap.size, 0, none⟩), .pointer (some ⟨ba, 0, none⟩)], .func (.func 32) #[] #[.pointer (some ⟨w.heap.size + 1, 0, none⟩), .pointer (some ⟨w.heap.size, 0, none⟩), .pointer (some ⟨bl, 0, none⟩)], .func (.func 34) #[] #[.pointer (some ⟨ba, 0, none⟩)], .func (.func 36) #[] #[.pointer (some ⟨w.heap.size, 0, none⟩)]] 40)) v43.heap.size 40 #[.func (.func 24) #[] #[.pointer (some ⟨bl, 0, none⟩)], .func (.func 26) #[] #[.pointer (some ⟨bl, 0, none⟩), .pointer (some ⟨ba, 0, none⟩)], .func (.func 28) #[] #[.pointer (some ⟨w.heap.size, 0, none⟩), .pointer (some ⟨bl, 0, none⟩)], .func (.func 30) #[] #[.pointer (some ⟨w.heap.size + 1, 0, none⟩), .pointer (some ⟨w.heap.size, 0, none⟩), .pointer (some ⟨ba, 0, none⟩)], .func (.func 32) #[] #[.pointer (some ⟨w.heap.size + 1, 0, none⟩), .pointer (some ⟨w.heap.size, 0, none⟩), .pointer (some ⟨bl, 0, none⟩)], .func (.func 34) #[] #[.pointer (some ⟨ba, 0, none⟩)], .func (.func 36) #[] #[.pointer (some ⟨w.heap.size, 0, none⟩)]] := Blk.new v43 40 _
    have hA7 : Below v43.heap.size v43 (v43.alloc (.cells #[.func (.func 24) #[] #[.pointer (some ⟨bl, 0, none⟩)], .func (.func 26) #[] #[.pointer (some ⟨bl, 0, none⟩), .pointer (some ⟨ba, 0, none⟩)], .func (.func 28) #[] #[.pointer (some ⟨w.heap.size, 0, none⟩), .pointer (some ⟨bl, 0, none⟩)], .func (.func 30) #[] #[.pointer (some ⟨w.heap.size + 1, 0, none⟩), .pointer (some ⟨w.heap.size, 0, none⟩), .pointer (some ⟨ba, 0, none⟩)], .func (.func 32) #[] #[.pointer (some ⟨w.heap.size + 1, 0, none⟩), .pointer (some ⟨w.heap.size, 0, none⟩), .pointer (some ⟨bl, 0, none⟩)], .func (.func 34) #[] #[.pointer (some ⟨ba, 0, none⟩)], .func (.func 36) #[] #[.pointer (some ⟨w.heap.size, 0, none⟩)]] 40)) := below_alloc (Below.refl _ _) _
    have hL7 := Blk.call hLf hA7
    have hB7 := Blk.call hBf hA7
    have hb7 := below_chain hA7 hbf
    generalize v43.alloc (.cells #[.func (.func 24) #[] #[.pointer (some ⟨bl, 0, none⟩)], .func (.func 26) #[] #[.pointer (some ⟨bl, 0, none⟩), .pointer (some ⟨ba, 0, none⟩)], .func (.func 28) #[] #[.pointer (some ⟨w.heap.size, 0, none⟩), .pointer (some ⟨bl, 0, none⟩)], .func (.func 30) #[] #[.pointer (some ⟨w.heap.size + 1, 0, none⟩), .pointer (some ⟨w.heap.size, 0, none⟩), .pointer (some ⟨ba, 0, none⟩)], .func (.func 32) #[] #[.pointer (some ⟨w.heap.size + 1, 0, none⟩), .pointer (some ⟨w.heap.size, 0, none⟩), .pointer (some ⟨bl, 0, none⟩)], .func (.func 34) #[] #[.pointer (some ⟨ba, 0, none⟩)], .func (.func 36) #[] #[.pointer (some ⟨w.heap.size, 0, none⟩)]] 40) = W0 at *
    obtain ⟨gs, hgs⟩ : ∃ g, v43.heap.size = g := ⟨_, rfl⟩
    rw [hgs] at K7
    rw [hgs]
    have hp7 := Blk.call hp1.out hb7
    have hs7 := Blk.call hs1.out hb7
    have hbW := below_chain hb7 hb1.out
    have hszW := hbW.size
    clear hLf hBf hbf hA7 hb7
    go_loopw [8, 27] (fun s i wr => ∃ (j : Nat) (B : Option Addr) (k : Nat), j ≤ 7 ∧ i = .int .i64 (j : Nat) ∧ s = .slice B (oL r j).length k ∧ OwnI wr W0.heap.size B k (oL r j) ∧ Below W0.heap.size W0 wr) (fun _ i _ => 7 - (intOf i).toNat)
    case atStart => exact ⟨0, none, 0, by omega, rfl, by cases r <;> rfl, by cases r <;> exact OwnA.nil _ _, Below.refl _ _⟩
    case round =>
     obtain ⟨j, B, k, hj, rfl, rfl, hO, hb⟩ := hrel
     have hbr := below_chain hb hbW
     replace hO := Lib.hid hO
     have hdone : j = 0 ∨ j = 1 ∨ j = 2 ∨ j = 3 ∨ j = 4 ∨ j = 5 ∨ j = 6 ∨ j = 7 := by omega
     rcases hdone with rfl | rfl | rfl | rfl | rfl | rfl | rfl | rfl
     ·
      have c9 : wr.cell? ⟨gs, 0, none⟩ = some (.func (.func 24) #[] #[.pointer (some ⟨bl, 0, none⟩)]) := (K7.call hb).cell 0
      have q := Lib.hid (chk1 (hL7.call hb) false (EN A d _ hbr))
      go_wp2_with (go_at_call 24; (refine q.out.mono ?_); rintro e w9 ⟨rfl, hb9⟩)
      go_roundw
      case rel => exact ⟨1, B, k, by omega, rfl, by cases r <;> rfl, by have h := OwnA.call hO.out hb9; cases r <;> exact h, below_chain hb9 hb⟩
      case measure => simp [intOf]
     ·
      have c9 : wr.cell? ⟨gs, 1, none⟩ = some (.func (.func 26) #[] #[.pointer (some ⟨bl, 0, none⟩), .pointer (some ⟨ba, 0, none⟩)]) := (K7.call hb).cell 1
      have q := Lib.hid (chk2 (hL7.call hb) (hB7.call hb) false (ST A d _ hbr))
      go_wp2_with (go_at_call 26; (refine q.out.mono ?_); rintro e w9 ⟨rfl, hb9⟩)
      go_roundw
      case rel => exact ⟨2, B, k, by omega, rfl, by cases r <;> rfl, by have h := OwnA.call hO.out hb9; cases r <;> exact h, below_chain hb9 hb⟩
      case measure => simp [intOf]
     ·
      have c9 : wr.cell? ⟨gs, 2, none⟩ = some (.func (.func 28) #[] #[.pointer (some ⟨w.heap.size, 0, none⟩), .pointer (some ⟨bl, 0, none⟩)]) := (K7.call hb).cell 2
      have q := Lib.hid (chk3 (hp7.call hb) (hL7.call hb) false (TW A d _ hbr))
      go_wp2_with (go_at_call 28; (refine q.out.mono ?_); rintro e w9 ⟨rfl, hb9⟩)
      go_roundw
      case rel => exact ⟨3, B, k, by omega, rfl, by cases r <;> rfl, by have h := OwnA.call hO.out hb9; cases r <;> exact h, below_chain hb9 hb⟩
      case measure => simp [intOf]
     ·
      have c9 : wr.cell? ⟨gs, 3, none⟩ = some (.func (.func 30) #[] #[.pointer (some ⟨w.heap.size + 1, 0, none⟩), .pointer (some ⟨w.heap.size, 0, none⟩), .pointer (some ⟨ba, 0, none⟩)]) := (K7.call hb).cell 3
      have q := Lib.hid (chk4 (hs7.call hb) (hp7.call hb) (hB7.call hb) false (LD _ hbr))
      go_wp2_with (go_at_call 30; (refine q.out.mono ?_); rintro e w9 ⟨rfl, hb9⟩)
      go_roundw
      case rel => exact ⟨4, B, k, by omega, rfl, by cases r <;> rfl, by have h := OwnA.call hO.out hb9; cases r <;> exact h, below_chain hb9 hb⟩
      case measure => simp [intOf]
     ·
      have c9 : wr.cell? ⟨gs, 4, none⟩ = some (.func (.func 32) #[] #[.pointer (some ⟨w.heap.size + 1, 0, none⟩), .pointer (some ⟨w.heap.size, 0, none⟩), .pointer (some ⟨bl, 0, none⟩)]) := (K7.call hb).cell 4
      have q := Lib.hid (chk5 (hs7.call hb) (hp7.call hb) (hL7.call hb) r (SL A d _ hbr))
      cases r
      ·
       go_wp2_with (go_at_call 32; (refine q.out.mono ?_); rintro e w9 ⟨rfl, hb9⟩)
       go_roundw
       case rel => exact ⟨5, B, k, by omega, rfl, rfl, OwnA.call hO.out hb9, below_chain hb9 hb⟩
       case measure => simp [intOf]
      ·
       go_wp2_with (first | (go_at_call 32; (refine q.out.mono ?_); rintro e w9 ⟨rfl, hb9⟩; have hO9 := Lib.hid (OwnA.call hO.out hb9); have hb9w := below_chain hb9 hb; have hz9 := hb9w.size) | (at_builtin; refine wpList_push_int rfl (.tmp 34) (.tmp 37) rfl W0.heap.size B k (oL true 4) _ rfl rfl hO9.out _ rfl rfl (by decide) hz9 ?_; intro A2 p2 w7 ho7 hp7))
       have hS7 := hp7.below (w0 := W0) (B := W0.heap.size) hb9w hz9 (fun b hb => (hO9.out.block hb).1)
       replace ho7 := Lib.hid ho7
       go_wp2_with fail
       go_roundw
       case rel => exact ⟨5, A2, p2, by omega, rfl, rfl, ho7.out, hS7⟩
       case measure => simp [intOf]
     ·
      have c9 : wr.cell? ⟨gs, 5, none⟩ = some (.func (.func 34) #[] #[.pointer (some ⟨ba, 0, none⟩)]) := (K7.call hb).cell 5
      have q := Lib.hid (chk6 (hB7.call hb) false (OR _ hbr))
      go_wp2_with (go_at_call 34; (refine q.out.mono ?_); rintro e w9 ⟨rfl, hb9⟩)
      go_roundw
      case rel => exact ⟨6, B, k, by omega, rfl, by cases r <;> rfl, by have h := OwnA.call hO.out hb9; cases r <;> exact h, below_chain hb9 hb⟩
      case measure => simp [intOf]
     ·
      have c9 : wr.cell? ⟨gs, 6, none⟩ = some (.func (.func 36) #[] #[.pointer (some ⟨w.heap.size, 0, none⟩)]) := (K7.call hb).cell 6
      have q := Lib.hid (chk7 (hp7.call hb) BV false (BD _ hbr) (fun w9 h9 => BO w9 (below_chain h9 hbr)))
      go_wp2_with (go_at_call 36; (refine q.out.mono ?_); rintro e w9 ⟨rfl, hb9⟩)
      go_roundw
      case rel => exact ⟨7, B, k, by omega, rfl, by cases r <;> rfl, by have h := OwnA.call hO.out hb9; cases r <;> exact h, below_chain hb9 hb⟩
      case measure => simp [intOf]
     ·
      go_wp2_with fail
      go_ret
      exact ⟨B, k, rfl, ⟨hO.out.1, hO.out.2.imp (fun x => x) fun ⟨g, cap, cur, a, b, c⟩ => ⟨g, cap, cur, a, Nat.le_trans hszW b, c⟩⟩, hbr⟩
   refine consH rfl (fun K hK => ?_) AllReadyH.nil
   ·
    go_simp
    have hbA44 : Below v39.heap.size v39 (v39.alloc (.cells #[.slice none 0 0] 78)) := below_alloc (Below.refl _ _) _
    have hB44 : Blk (v39.alloc (.cells #[.slice none 0 0] 78)) v39.heap.size 78 #[.slice none 0 0] := Blk.new v39 78 #[.slice none 0 0]
    have gba44 : w1.heap.size ≤ v39.heap.size := hH39.1.size
    have hL44 := Blk.call hL39 hbA44
    have hne : ¬ wd0.heap.size = v39.heap.size := Nat.ne_of_lt (Blk.lt hL39)
    have hbS44 := below_chain hbA44 hH39.1
    refine hK.out _ _ ⟨hbS44, hC.out _ hbS44⟩ (fun hH44 => ?_)
    clear hK K
    try go_frame
    generalize v39.alloc (.cells #[.slice none 0 0] 78) = v44 at *
    refine wpAnyH_ready (rs := [3]) (by kernel_rfl) (by simp) ?_
    refine consH rfl (fun K hK => ?_) AllReadyH.nil
    go_simp
    (go_at_call 23; (with_reducible refine (LS.out _ (below_chain hH44.1 hb1.out)).mono ?_))
    rintro e v45 ⟨rfl, hb45⟩
    have hbS45 := below_chain hb45 hH44.1
    have hL45 := Blk.call hL44 hb45
    have hB45 := Blk.call hB44 hb45
    refine hK.out _ _ ⟨hbS45, hC.out _ hbS45⟩ (fun hH45 => ?_)
    clear hK K
    try go_frame
    refine wpAnyH_ready (rs := [6]) (by kernel_rfl) (by simp) ?_
    refine consH rfl (fun K hK => ?_) AllReadyH.nil
    have z46 : v45.cell? ⟨wd0.heap.size, 0, none⟩ = some (.slice none 0 0) := Blk.cell hL45 0
    have y46 : v45.frozen? ⟨wd0.heap.size, 0, none⟩ = false := Blk.frozen hL45 0
    go_simp
    have hL46 := put_at hL45 0 (.slice A 0 d)
    have hB46 := put_off hB45 hne 0 (.slice A 0 d)
    have hbS46 : Below w1.heap.size w1 (v45.setCell ⟨wd0.heap.size, 0, none⟩ (.slice A 0 d)) := Below.setCell hH45.1 gbl38 _
    refine hK.out _ _ ⟨hbS46, hC.out _ hbS46⟩ (fun hH46 => ?_)
    clear hK K z46 y46
    try go_frame
    generalize v45.setCell ⟨wd0.heap.size, 0, none⟩ (.slice A 0 d) = v46 at *
    refine wpAnyH_ready (rs := [7]) (by kernel_rfl) (by simp) ?_
    refine consH rfl (fun K hK => ?_) AllReadyH.nil
    have z47 : v46.cell? ⟨v39.heap.size, 0, none⟩ = some (.slice none 0 0) := Blk.cell hB46 0
    have y47 : v46.frozen? ⟨v39.heap.size, 0, none⟩ = false := Blk.frozen hB46 0
    go_simp
    have hB47 := put_at hB46 0 (.slice none 0 0)
    have hL47 := put_off hL46 (fun h => hne h.symm) 0 (.slice none 0 0)
    have hbS47 : Below w1.heap.size w1 (v46.setCell ⟨v39.heap.size, 0, none⟩ (.slice none 0 0)) := Below.setCell hH46.1 gba44 _
    refine hK.out _ _ ⟨hbS47, hC.out _ hbS47⟩ (fun hH47 => ?_)
    clear hK K z47 y47
    try go_frame
    generalize v46.setCell ⟨v39.heap.size, 0, none⟩ (.slice none 0 0) = v47 at *
    refine wpAnyH_done (by kernel_rfl) ?_ _
    obtain ⟨bl, hbl⟩ : ∃ b, wd0.heap.size = b := ⟨_, rfl⟩
    obtain ⟨ba, hba⟩ : ∃ b, v39.heap.size = b := ⟨_, rfl⟩
    have hLf := hL47
    have hBf := hB47
    have hbf := hH47.1
    rw [hbl] at hLf
    rw [hba] at hBf
    rw [hbl, hba]
    clear hL47 hB47
    go_wp2_with fail
    have K7 : Blk (v47.alloc (.cells #[.func (.func 24) #[] #[.pointer (some ⟨bl, 0, none⟩)], .func (.func 26) #[] #[.pointer (some ⟨bl, 0, none⟩), .pointer (some ⟨ba, 0, none⟩)], .func (.func 28) #[] #[.pointer (some ⟨w.heap.size, 0, none⟩), .pointer (some ⟨bl, 0, none⟩)], .func (.func 30) #[] #[.pointer (some ⟨w.heap.size + 1, 0, none⟩), .pointer (some ⟨w.heap.size, 0, none⟩), .pointer (some ⟨ba, 0, none⟩)], .func (.func 32) #[] #[.pointer (some ⟨w.heap.size + 1, 0, none⟩), .pointer (some ⟨w.heap.size, 0, none⟩), .pointer (some ⟨bl, 0, none⟩)], .func (.func 34) #[] #[.pointer (some ⟨ba, 0, none⟩)], .func (.func 36) #[] #[.pointer (some ⟨w.heap.size, 0, none⟩)]] 40)) v47.heap.size 40 #[.func (.func 24) #[] #[.pointer (some ⟨bl, 0, none⟩)], .func (.func 26) #[] #[.pointer (some ⟨bl, 0, none⟩), .pointer (some ⟨ba, 0, none⟩)], .func (.func 28) #[] #[.pointer (some ⟨w.heap.size, 0, none⟩), .pointer (some ⟨bl, 0, none⟩)], .func (.func 30) #[] #[.pointer (some ⟨w.heap.size + 1, 0, none⟩), .pointer (some ⟨w.heap.size, 0, none⟩), .pointer (some ⟨ba, 0, none⟩)], .func (.func 32) #[] #[.pointer (some ⟨w.heap.size + 1, 0, none⟩), .pointer (some ⟨w.heap.size, 0, none⟩), .pointer (some ⟨bl, 0, none⟩)], .func (.func 34) #[] #[.pointer (some ⟨ba, 0, none⟩)], .func (.func 36) #[] #[.pointer (some ⟨w.heap.size, 0, none⟩)]] := Blk.new v47 40 _
    have hA7 : Below v47.heap.size v47 (v47.alloc (.cells #[.func (.func 24) #[] #[.pointer (some ⟨bl, 0, none⟩)], .func (.func 26) #[] #[.pointer (some ⟨bl, 0, none⟩), .pointer (some ⟨ba, 0, none⟩)], .func (.func 28) #[] #[.pointer (some ⟨w.heap.size, 0, none⟩), .pointer (some ⟨bl, 0, none⟩)], .func (.func 30) #[] #[.pointer (some ⟨w.heap.size + 1, 0, none⟩), .pointer (some ⟨w.heap.size, 0, none⟩), .pointer (some ⟨ba, 0, none⟩)], .func (.func 32) #[] #[.pointer (some ⟨w.heap.size + 1, 0, none⟩), .pointer (some ⟨w.heap.size, 0, none⟩), .pointer (some ⟨bl, 0, none⟩)], .func (.func 34) #[] #[.pointer (some ⟨ba, 0, none⟩)], .func (.func 36) #[] #[.pointer (some ⟨w.heap.size, 0, none⟩)]] 40)) := below_alloc (Below.refl _ _) _
    have hL7 := Blk.call hLf hA7
    have hB7 := Blk.call hBf hA7
    have hb7 := below_chain hA7 hbf
    generalize v47.alloc (.cells #[.func (.func 24) #[] #[.pointer (some ⟨bl, 0, none⟩)], .func (.func 26) #[] #[.pointer (some ⟨bl, 0, none⟩), .pointer (some ⟨ba, 0, none⟩)], .func (.func 28) #[] #[.pointer (some ⟨w.heap.size, 0, none⟩), .pointer (some ⟨bl, 0, none⟩)], .func (.func 30) #[] #[.pointer (some ⟨w.heap.size + 1, 0, none⟩), .pointer (some ⟨w.heap.size, 0, none⟩), .pointer (some ⟨ba, 0, none⟩)], .func (.func 32) #[] #[.pointer (some ⟨w.heap.size + 1, 0, none⟩), .pointer (some ⟨w.heap.size, 0, none⟩), .pointer (some ⟨bl, 0, none⟩)], .func (.func 34) #[] #[.pointer (some ⟨ba, 0, none⟩)], .func (.func 36) #[] #[.pointer (some ⟨w.heap.size, 0, none⟩)]] 40) = W0 at *
    obtain ⟨gs, hgs⟩ : ∃ g, v47.heap.size = g := ⟨_, rfl⟩
    rw [hgs] at K7
    rw [hgs]
    have hp7 := Blk.call hp1.out hb7
    have hs7 := Blk.call hs1.out hb7
    have hbW := below_chain hb7 hb1.out
    have hszW := hbW.size
    clear hLf hBf hbf hA7 hb7
    go_loopw [8, 27] (fun s i wr => ∃ (j : Nat) (B : Option Addr) (k : Nat), j ≤ 7 ∧ i = .int .i64 (j : Nat) ∧ s = .slice B (oL r j).length k ∧ OwnI wr W0.heap.size B k (oL r j) ∧ Below W0.heap.size W0 wr) (fun _ i _ => 7 - (intOf i).toNat)
    case atStart => exact ⟨0, none, 0, by omega, rfl, by cases r <;> rfl, by cases r <;> exact OwnA.nil _ _, Below.refl _ _⟩
    case round =>
     obtain ⟨j, B, k, hj, rfl, rfl, hO, hb⟩ := hrel
     have hbr := below_chain hb hbW
     replace hO := Lib.hid hO
     have hdone : j = 0 ∨ j = 1 ∨ j = 2 ∨ j = 3 ∨ j = 4 ∨ j = 5 ∨ j = 6 ∨ j = 7 := by omega
     rcases hdone with rfl | rfl | rfl | rfl | rfl | rfl | rfl | rfl
     ·
      have c9 : wr.cell? ⟨gs, 0, none⟩ = some (.func (.func 24) #[] #[.pointer (some ⟨bl, 0, none⟩)]) := (K7.call hb).cell 0
      have q := Lib.hid (chk1 (hL7.call hb) false (EN A d _ hbr))
      go_wp2_with (go_at_call 24; (refine q.out.mono ?_); rintro e w9 ⟨rfl, hb9⟩)
      go_roundw
      case rel => exact ⟨1, B, k, by omega, rfl, by cases r <;> rfl, by have h := OwnA.call hO.out hb9; cases r <;> exact h, below_chain hb9 hb⟩
      case measure => simp [intOf]
     ·
      have c9 : wr.cell? ⟨gs, 1, none⟩ = some (.func (.func 26) #[] #[.pointer (some ⟨bl, 0, none⟩), .pointer (some ⟨ba, 0, none⟩)]) := (K7.call hb).cell 1
      have q := Lib.hid (chk2 (hL7.call hb) (hB7.call hb) false (ST A d _ hbr))
      go_wp2_with (go_at_call 26; (refine q.out.mono ?_); rintro e w9 ⟨rfl, hb9⟩)
      go_roundw
      case rel => exact ⟨2, B, k, by omega, rfl, by cases r <;> rfl, by have h := OwnA.call hO.out hb9; cases r <;> exact h, below_chain hb9 hb⟩
      case measure => simp [intOf]
     ·
      have c9 : wr.cell? ⟨gs, 2, none⟩ = some (.func (.func 28) #[] #[.pointer (some ⟨w.heap.size, 0, none⟩), .pointer (some ⟨bl, 0, none⟩)]) := (K7.call hb).cell 2
      have q := Lib.hid (chk3 (hp7.call hb) (hL7.call hb) false (TW A d _ hbr))
      go_wp2_with (go_at_call 28; (refine q.out.mono ?_); rintro e w9 ⟨rfl, hb9⟩)
      go_roundw
      case rel => exact ⟨3, B, k, by omega, rfl, by cases r <;> rfl, by have h := OwnA.call hO.out hb9; cases r <;> exact h, below_chain hb9 hb⟩
      case measure => simp [intOf]
     ·
      have c9 : wr.cell? ⟨gs, 3, none⟩ = some (.func (.func 30) #[] #[.pointer (some ⟨w.heap.size + 1, 0, none⟩), .pointer (some ⟨w.heap.size, 0, none⟩), .pointer (some ⟨ba, 0, none⟩)]) := (K7.call hb).cell 3
      have q := Lib.hid (chk4 (hs7.call hb) (hp7.call hb) (hB7.call hb) false (LD _ hbr))
      go_wp2_with (go_at_call 30; (refine q.out.mono ?_); rintro e w9 ⟨rfl, hb9⟩)
      go_roundw
      case rel => exact ⟨4, B, k, by omega, rfl, by cases r <;> rfl, by have h := OwnA.call hO.out hb9; cases r <;> exact h, below_chain hb9 hb⟩
      case measure => simp [intOf]
     ·
      have c9 : wr.cell? ⟨gs, 4, none⟩ = some (.func (.func 32) #[] #[.pointer (some ⟨w.heap.size + 1, 0, none⟩), .pointer (some ⟨w.heap.size, 0, none⟩), .pointer (some ⟨bl, 0, none⟩)]) := (K7.call hb).cell 4
      have q := Lib.hid (chk5 (hs7.call hb) (hp7.call hb) (hL7.call hb) r (SL A d _ hbr))
      cases r
      ·
       go_wp2_with (go_at_call 32; (refine q.out.mono ?_); rintro e w9 ⟨rfl, hb9⟩)
       go_roundw
       case rel => exact ⟨5, B, k, by omega, rfl, rfl, OwnA.call hO.out hb9, below_chain hb9 hb⟩
       case measure => simp [intOf]
      ·
       go_wp2_with (first | (go_at_call 32; (refine q.out.mono ?_); rintro e w9 ⟨rfl, hb9⟩; have hO9 := Lib.hid (OwnA.call hO.out hb9); have hb9w := below_chain hb9 hb; have hz9 := hb9w.size) | (at_builtin; refine wpList_push_int rfl (.tmp 34) (.tmp 37) rfl W0.heap.size B k (oL true 4) _ rfl rfl hO9.out _ rfl rfl (by decide) hz9 ?_; intro A2 p2 w7 ho7 hp7))
       have hS7 := hp7.below (w0 := W0) (B := W0.heap.size) hb9w hz9 (fun b hb => (hO9.out.block hb).1)
       replace ho7 := Lib.hid ho7
       go_wp2_with fail
       go_roundw
       case rel => exact ⟨5, A2, p2, by omega, rfl, rfl, ho7.out, hS7⟩
       case measure => simp [intOf]
     ·
      have c9 : wr.cell? ⟨gs, 5, none⟩ = some (.func (.func 34) #[] #[.pointer (some ⟨ba, 0, none⟩)]) := (K7.call hb).cell 5
      have q := Lib.hid (chk6 (hB7.call hb) false (OR _ hbr))
      go_wp2_with (go_at_call 34; (refine q.out.mono ?_); rintro e w9 ⟨rfl, hb9⟩)
      go_roundw
      case rel => exact ⟨6, B, k, by omega, rfl, by cases r <;> rfl, by have h := OwnA.call hO.out hb9; cases r <;> exact h, below_chain hb9 hb⟩
      case measure => simp [intOf]
     ·
      have c9 : wr.cell? ⟨gs, 6, none⟩ = some (.func (.func 36) #[] #[.pointer (some ⟨w.heap.size, 0, none⟩)]) := (K7.call hb).cell 6
      have q := Lib.hid (chk7 (hp7.call hb) BV false (BD _ hbr) (fun w9 h9 => BO w9 (below_chain h9 hbr)))
      go_wp2_with (go_at_call 36; (refine q.out.mono ?_); rintro e w9 ⟨rfl, hb9⟩)
      go_roundw
      case rel => exact ⟨7, B, k, by omega, rfl, by cases r <;> rfl, by have h := OwnA.call hO.out hb9; cases r <;> exact h, below_chain hb9 hb⟩
      case measure => simp [intOf]
     ·
      go_wp2_with fail
      go_ret
      exact ⟨B, k, rfl, ⟨hO.out.1, hO.out.2.imp (fun x => x) fun ⟨g, cap, cur, a, b, c⟩ => ⟨g, cap, cur, a, Nat.le_trans hszW b, c⟩⟩, hbr⟩
  refine consH rfl (fun K hK => ?_) AllReadyH.nil
  ·
   go_simp
   have hbA48 : Below v38.heap.size v38 (v38.alloc (.cells #[.slice none 0 0] 78)) := below_alloc (Below.refl _ _) _
   have hB48 : Blk (v38.alloc (.cells #[.slice none 0 0] 78)) v38.heap.size 78 #[.slice none 0 0] := Blk.new v38 78 #[.slice none 0 0]
   have gba48 : w1.heap.size ≤ v38.heap.size := hH38.1.size
   have hL48 := Blk.call hL38 hbA48
   have hne : ¬ wd0.heap.size = v38.heap.size := Nat.ne_of_lt (Blk.lt hL38)
   have hbS48 := below_chain hbA48 hH38.1
   refine hK.out _ _ ⟨hbS48, hC.out _ hbS48⟩ (fun hH48 => ?_)
   clear hK K
   try go_frame
   generalize v38.alloc (.cells #[.slice none 0 0] 78) = v48 at *
   refine wpAnyH_ready (rs := [1]) (by kernel_rfl) (by simp) ?_
   refine consH rfl (fun K hK => ?_) AllReadyH.nil
   go_simp
   (go_at_call 22; (with_reducible refine (LV.out _ (below_chain hH48.1 hb1.out)).mono ?_))
   rintro e v49 ⟨A, d, rfl, hb49⟩
   have hbS49 := below_chain hb49 hH48.1
   have hL49 := Blk.call hL48 hb49
   have hB49 := Blk.call hB48 hb49
   refine hK.out _ _ ⟨hbS49, hC.out _ hbS49⟩ (fun hH49 => ?_)
   clear hK K
   try go_frame
   refine wpAnyH_ready (rs := [3]) (by kernel_rfl) (by simp) ?_
   refine consH rfl (fun K hK => ?_) AllReadyH.nil
   go_simp
   (go_at_call 23; (with_reducible refine (LS.out _ (below_chain hH49.1 hb1.out)).mono ?_))
   rintro e v50 ⟨rfl, hb50⟩
   have hbS50 := below_chain hb50 hH49.1
   have hL50 := Blk.call hL49 hb50
   have hB50 := Blk.call hB49 hb50
   refine hK.out _ _ ⟨hbS50, hC.out _ hbS50⟩ (fun hH50 => ?_)
   clear hK K
   try go_frame
   refine wpAnyH_ready (rs := [6]) (by kernel_rfl) (by simp) ?_
   refine consH rfl (fun K hK => ?_) AllReadyH.nil
   have z51 : v50.cell? ⟨wd0.heap.size, 0, none⟩ = some (.slice none 0 0) := Blk.cell hL50 0
   have y51 : v50.frozen? ⟨wd0.heap.size, 0, none⟩ = false := Blk.frozen hL50 0
   go_simp
   have hL51 := put_at hL50 0 (.slice A 0 d)
   have hB51 := put_off hB50 hne 0 (.slice A 0 d)
   have hbS51 : Below w1.heap.size w1 (v50.setCell ⟨wd0.heap.size, 0, none⟩ (.slice A 0 d)) := Below.setCell hH50.1 gbl38 _
   refine hK.out _ _ ⟨hbS51, hC.out _ hbS51⟩ (fun hH51 => ?_)
   clear hK K z51 y51
   try go_frame
   generalize v50.setCell ⟨wd0.heap.size, 0, none⟩ (.slice A 0 d) = v51 at *
   refine wpAnyH_ready (rs := [7]) (by kernel_rfl) (by simp) ?_
   refine consH rfl (fun K hK => ?_) AllReadyH.nil
   have z52 : v51.cell? ⟨v38.heap.size, 0, none⟩ = some (.slice none 0 0) := Blk.cell hB51 0
   have y52 : v51.frozen? ⟨v38.heap.size, 0, none⟩ = false := Blk.frozen hB51 0
   go_simp
   have hB52 := put_at hB51 0 (.slice none 0 0)
   have hL52 := put_off hL51 (fun h => hne h.symm) 0 (.slice none 0 0)
   have hbS52 : Below w1.heap.size w1 (v51.setCell ⟨v38.heap.size, 0, none⟩ (.slice none 0 0)) := Below.setCell hH51.1 gba48 _
   refine hK.out _ _ ⟨hbS52, hC.out _ hbS52⟩ (fun hH52 => ?_)
   clear hK K z52 y52
   try go_frame
   generalize v51.setCell ⟨v38.heap.size, 0, none⟩ (.slice none 0 0) = v52 at *
   refine wpAnyH_done (by kernel_rfl) ?_ _
   obtain ⟨bl, hbl⟩ : ∃ b, wd0.heap.size = b := ⟨_, rfl⟩
   obtain ⟨ba, hba⟩ : ∃ b, v38.heap.size = b := ⟨_, rfl⟩
   have hLf := hL52
   have hBf := hB52
   have hbf := hH52.1
   rw [hbl] at hLf
   rw [hba] at hBf
   rw [hbl, hba]
   clear hL52 hB52
   go_wp2_with fail
   have K7 : Blk (v52.alloc (.cells #[.func (.func 24) #[] #[.pointer (some ⟨bl, 0, none⟩)], .func (.func 26) #[] #[.pointer (some ⟨bl, 0, none⟩), .pointer (some ⟨ba, 0, none⟩)], .func (.func 28) #[] #[.pointer (some ⟨w.heap.size, 0, none⟩), .pointer (some ⟨bl, 0, none⟩)], .func (.func 30) #[] #[.pointer (some ⟨w.heap.size + 1, 0, none⟩), .pointer (some ⟨w.heap.size, 0, none⟩), .pointer (some ⟨ba, 0, none⟩)], .func (.func 32) #[] #[.pointer (some ⟨w.heap.size + 1, 0, none⟩), .pointer (some ⟨w.heap.size, 0, none⟩), .pointer (some ⟨bl, 0, none⟩)], .func (.func 34) #[] #[.pointer (some ⟨ba, 0, none⟩)], .func (.func 36) #[] #[.pointer (some ⟨w.heap.size, 0, none⟩)]] 40)) v52.heap.size 40 #[.func (.func 24) #[] #[.pointer (some ⟨bl, 0, none⟩)], .func (.func 26) #[] #[.pointer (some ⟨bl, 0, none⟩), .pointer (some ⟨ba, 0, none⟩)], .func (.func 28) #[] #[.pointer (some ⟨w.heap.size, 0, none⟩), .pointer (some ⟨bl, 0, none⟩)], .func (.func 30) #[] #[.pointer (some ⟨w.heap.size + 1, 0, none⟩), .pointer (some ⟨w.heap.size, 0, none⟩), .pointer (some ⟨ba, 0, none⟩)], .func (.func 32) #[] #[.pointer (some ⟨w.heap.size + 1, 0, none⟩), .pointer (some ⟨w.heap.size, 0, none⟩), .pointer (some ⟨bl, 0, none⟩)], .func (.func 34) #[] #[.pointer (some ⟨ba, 0, none⟩)], .func (.func 36) #[] #[.pointer (some ⟨w.heap.size, 0, none⟩)]] := Blk.new v52 40 _
   have hA7 : Below v52.heap.size v52 (v52.alloc (.cells #[.func (.func 24) #[] #[.pointer (some ⟨bl, 0, none⟩)], .func (.func 26) #[] #[.pointer (some ⟨bl, 0, none⟩), .pointer (some ⟨ba, 0, none⟩)], .func (.func 28) #[] #[.pointer (some ⟨w.heap.size, 0, none⟩), .pointer (some ⟨bl, 0, none⟩)], .func (.func 30) #[] #[.pointer (some ⟨w.heap.size + 1, 0, none⟩), .pointer (some ⟨w.heap.size, 0, none⟩), .pointer (some ⟨ba, 0, none⟩)], .func (.func 32) #[] #[.pointer (some ⟨w.heap.size + 1, 0, none⟩), .pointer (some ⟨w.heap.size, 0, none⟩), .pointer (some ⟨bl, 0, none⟩)], .func (.func 34) #[] #[.pointer (some ⟨ba, 0, none⟩)], .func (.func 36) #[] #[.pointer (some ⟨w.heap.size, 0, none⟩)]] 40)) := below_alloc (Below.refl _ _) _
   have hL7 := Blk.call hLf hA7
   have hB7 := Blk.call hBf hA7
   have hb7 := below_chain hA7 hbf
   generalize v52.alloc (.cells #[.func (.func 24) #[] #[.pointer (some ⟨bl, 0, none⟩)], .func (.func 26) #[] #[.pointer (some ⟨bl, 0, none⟩), .pointer (some ⟨ba, 0, none⟩)], .func (.func 28) #[] #[.pointer (some ⟨w.heap.size, 0, none⟩), .pointer (some ⟨bl, 0, none⟩)], .func (.func 30) #[] #[.pointer (some ⟨w.heap.size + 1, 0, none⟩), .pointer (some ⟨w.heap.size, 0, none⟩), .pointer (some ⟨ba, 0, none⟩)], .func (.func 32) #[] #[.pointer (some ⟨w.heap.size + 1, 0, none⟩), .pointer (some ⟨w.heap.size, 0, none⟩), .pointer (some ⟨bl, 0, none⟩)], .func (.func 34) #[] #[.pointer (some ⟨ba, 0, none⟩)], .func (.func 36) #[] #[.pointer (some ⟨w.heap.size, 0, none⟩)]] 40) = W0 at *
   obtain ⟨gs, hgs⟩ : ∃ g, v52.heap.size = g := ⟨_, rfl⟩
   rw [hgs] at K7
   rw [hgs]
   have hp7 := Blk.call hp1.out hb7
   have hs7 := Blk.call hs1.out hb7
   have hbW := below_chain hb7 hb1.out
   have hszW := hbW.size
   clear hLf hBf hbf hA7 hb7
   go_loopw [8, 27] (fun s i wr => ∃ (j : Nat) (B : Option Addr) (k : Nat), j ≤ 7 ∧ i = .int .i64 (j : Nat) ∧ s = .slice B (oL r j).length k ∧ OwnI wr W0.heap.size B k (oL r j) ∧ Below W0.heap.size W0 wr) (fun _ i _ => 7 - (intOf i).toNat)
   case atStart => exact ⟨0, none, 0, by omega, rfl, by cases r <;> rfl, by cases r <;> exact OwnA.nil _ _, Below.refl _ _⟩
   case round =>
    obtain ⟨j, B, k, hj, rfl, rfl, hO, hb⟩ := hrel
    have hbr := below_chain hb hbW
    replace hO := Lib.hid hO
    have hdone : j = 0 ∨ j = 1 ∨ j = 2 ∨ j = 3 ∨ j = 4 ∨ j = 5 ∨ j = 6 ∨ j = 7 := by omega
    rcases hdone with rfl | rfl | rfl | rfl | rfl | rfl | rfl | rfl
    ·
     have c9 : wr.cell? ⟨gs, 0, none⟩ = some (.func (.func 24) #[] #[.pointer (some ⟨bl, 0, none⟩)]) := (K7.call hb).cell 0
     have q := Lib.hid (chk1 (hL7.call hb) false (EN A d _ hbr))
     go_wp2_with (go_at_call 24; (refine q.out.mono ?_); rintro e w9 ⟨rfl, hb9⟩)
     go_roundw
     case rel => exact ⟨1, B, k, by omega, rfl, by cases r <;> rfl, by have h := OwnA.call hO.out hb9; cases r <;> exact h, below_chain hb9 hb⟩
     case measure => simp [intOf]
    ·
     have c9 : wr.cell? ⟨gs, 1, none⟩ = some (.func (.func 26) #[] #[.pointer (some ⟨bl, 0, none⟩), .pointer (some ⟨ba, 0, none⟩)]) := (K7.call hb).cell 1
     have q := Lib.hid (chk2 (hL7.call hb) (hB7.call hb) false (ST A d _ hbr))
     go_wp2_with (go_at_call 26; (refine q.out.mono ?_); rintro e w9 ⟨rfl, hb9⟩)
     go_roundw
     case rel => exact ⟨2, B, k, by omega, rfl, by cases r <;> rfl, by have h := OwnA.call hO.out hb9; cases r <;> exact h, below_chain hb9 hb⟩
     case measure => simp [intOf]
    ·
     have c9 : wr.cell? ⟨gs, 2, none⟩ = some (.func (.func 28) #[] #[.pointer (some ⟨w.heap.size, 0, none⟩), .pointer (some ⟨bl, 0, none⟩)]) := (K7.call hb).cell 2
     have q := Lib.hid (chk3 (hp7.call hb) (hL7.call hb) false (TW A d _ hbr))
     go_wp2_with (go_at_call 28; (refine q.out.mono ?_); rintro e w9 ⟨rfl, hb9⟩)
     go_roundw
     case rel => exact ⟨3, B, k, by omega, rfl, by cases r <;> rfl, by have h := OwnA.call hO.out hb9; cases r <;> exact h, below_chain hb9 hb⟩
     case measure => simp [intOf]
    ·
     have c9 : wr.cell? ⟨gs, 3, none⟩ = some (.func (.func 30) #[] #[.pointer (some ⟨w.heap.size + 1, 0, none⟩), .pointer (some ⟨w.heap.size, 0, none⟩), .pointer (some ⟨ba, 0, none⟩)]) := (K7.call hb).cell 3
     have q := Lib.hid (chk4 (hs7.call hb) (hp7.call hb) (hB7.call hb) false (LD _ hbr))
     go_wp2_with (go_at_call 30; (refine q.out.mono ?_); rintro e w9 ⟨rfl, hb9⟩)
     go_roundw
     case rel => exact ⟨4, B, k, by omega, rfl, by cases r <;> rfl, by have h := OwnA.call hO.out hb9; cases r <;> exact h, below_chain hb9 hb⟩
     case measure => simp [intOf]
    ·
     have c9 : wr.cell? ⟨gs, 4, none⟩ = some (.func (.func 32) #[] #[.pointer (some ⟨w.heap.size + 1, 0, none⟩), .pointer (some ⟨w.heap.size, 0, none⟩), .pointer (some ⟨bl, 0, none⟩)]) := (K7.call hb).cell 4
     have q := Lib.hid (chk5 (hs7.call hb) (hp7.call hb) (hL7.call hb) r (SL A d _ hbr))
     cases r
     ·
      go_wp2_with (go_at_call 32; (refine q.out.mono ?_); rintro e w9 ⟨rfl, hb9⟩)
      go_roundw
      case rel => exact ⟨5, B, k, by omega, rfl, rfl, OwnA.call hO.out hb9, below_chain hb9 hb⟩
      case measure => simp [intOf]
     ·
      go_wp2_with (first | (go_at_call 32; (refine q.out.mono ?_); rintro e w9 ⟨rfl, hb9⟩; have hO9 := Lib.hid (OwnA.call hO.out hb9); have hb9w := below_chain hb9 hb; have hz9 := hb9w.size) | (at_builtin; refine wpList_push_int rfl (.tmp 34) (.tmp 37) rfl W0.heap.size B k (oL true 4) _ rfl rfl hO9.out _ rfl rfl (by decide) hz9 ?_; intro A2 p2 w7 ho7 hp7))
      have hS7 := hp7.below (w0 := W0) (B := W0.heap.size) hb9w hz9 (fun b hb => (hO9.out.block hb).1)
      replace ho7 := Lib.hid ho7
      go_wp2_with fail
      go_roundw
      case rel => exact ⟨5, A2, p2, by omega, rfl, rfl, ho7.out, hS7⟩
      case measure => simp [intOf]
    ·
     have c9 : wr.cell? ⟨gs, 5, none⟩ = some (.func (.func 34) #[] #[.pointer (some ⟨ba, 0, none⟩)]) := (K7.call hb).cell 5
     have q := Lib.hid (chk6 (hB7.call hb) false (OR _ hbr))
     go_wp2_with (go_at_call 34; (refine q.out.mono ?_); rintro e w9 ⟨rfl, hb9⟩)
     go_roundw
     case rel => exact ⟨6, B, k, by omega, rfl, by cases r <;> rfl, by have h := OwnA.call hO.out hb9; cases r <;> exact h, below_chain hb9 hb⟩
     case measure => simp [intOf]
    ·
     have c9 : wr.cell? ⟨gs, 6, none⟩ = some (.func (.func 36) #[] #[.pointer (some ⟨w.heap.size, 0, none⟩)]) := (K7.call hb).cell 6
     have q := Lib.hid (chk7 (hp7.call hb) BV false (BD _ hbr) (fun w9 h9 => BO w9 (below_chain h9 hbr)))
     go_wp2_with (go_at_call 36; (refine q.out.mono ?_); rintro e w9 ⟨rfl, hb9⟩)
     go_roundw
     case rel => exact ⟨7, B, k, by omega, rfl, by cases r <;> rfl, by have h := OwnA.call hO.out hb9; cases r <;> exact h, below_chain hb9 hb⟩
     case measure => simp [intOf]
    ·
     go_wp2_with fail
     go_ret
     exact ⟨B, k, rfl, ⟨hO.out.1, hO.out.2.imp (fun x => x) fun ⟨g, cap, cur, a, b, c⟩ => ⟨g, cap, cur, a, Nat.le_trans hszW b, c⟩⟩, hbr⟩
 refine consH rfl (fun K hK => ?_) AllReadyH.nil
 ·
  go_simp
  have hbA53 : Below wd0.heap.size wd0 (wd0.alloc (.cells #[.slice none 0 0] 78)) := below_alloc (Below.refl _ _) _
  have hB53 : Blk (wd0.alloc (.cells #[.slice none 0 0] 78)) wd0.heap.size 78 #[.slice none 0 0] := Blk.new wd0 78 #[.slice none 0 0]
  have gba53 : w1.heap.size ≤ wd0.heap.size := hH.1.size
  have hbS53 := below_chain hbA53 hH.1
  refine hK.out _ _ ⟨hbS53, hC.out _ hbS53⟩ (fun hH53 => ?_)
  clear hK K
  try go_frame
  generalize wd0.alloc (.cells #[.slice none 0 0] 78) = v53 at *
  refine wpAnyH_ready (rs := [1, 4]) (by kernel_rfl) (by simp) ?_
  refine consH rfl (fun K hK => ?_) ?_
  ·
   go_simp
   (go_at_call 22; (with_reducible refine (LV.out _ (below_chain hH53.1 hb1.out)).mono ?_))
   rintro e v54 ⟨A, d, rfl, hb54⟩
   have hbS54 := below_chain hb54 hH53.1
   have hB54 := Blk.call hB53 hb54
   refine hK.out _ _ ⟨hbS54, hC.out _ hbS54⟩ (fun hH54 => ?_)
   clear hK K
   try go_frame
   refine wpAnyH_ready (rs := [3, 4]) (by kernel_rfl) (by simp) ?_
   refine consH rfl (fun K hK => ?_) ?_
   ·
    go_simp
    (go_at_call 23; (with_reducible refine (LS.out _ (below_chain hH54.1 hb1.out)).mono ?_))
    rintro e v55 ⟨rfl, hb55⟩
    have hbS55 := below_chain hb55 hH54.1
    have hB55 := Blk.call hB54 hb55
    refine hK.out _ _ ⟨hbS55, hC.out _ hbS55⟩ (fun hH55 => ?_)
    clear hK K
    try go_frame
    refine wpAnyH_ready (rs := [4]) (by kernel_rfl) (by simp) ?_
    refine consH rfl (fun K hK => ?_) AllReadyH.nil
    go_simp
    have hbA56 : Below v55.heap.size v55 (v55.alloc (.cells #[.slice none 0 0] 76)) := below_alloc (Below.refl _ _) _
    have hL56 : Blk (v55.alloc (.cells #[.slice none 0 0] 76)) v55.heap.size 76 #[.slice none 0 0] := Blk.new v55 76 #[.slice none 0 0]
    have gbl56 : w1.heap.size ≤ v55.heap.size := hH55.1.size
    have hB56 := Blk.call hB55 hbA56
    have hne : ¬ wd0.heap.size = v55.heap.size := Nat.ne_of_lt (Blk.lt hB55)
    have hbS56 := below_chain hbA56 hH55.1
    refine hK.out _ _ ⟨hbS56, hC.out _ hbS56⟩ (fun hH56 => ?_)
    clear hK K
    try go_frame
    generalize v55.alloc (.cells #[.slice none 0 0] 76) = v56 at *
    refine wpAnyH_ready (rs := [6]) (by kernel_rfl) (by simp) ?_
    refine consH rfl (fun K hK => ?_) AllReadyH.nil
    have z57 : v56.cell? ⟨v55.heap.size, 0, none⟩ = some (.slice none 0 0) := Blk.cell hL56 0
    have y57 : v56.frozen? ⟨v55.heap.size, 0, none⟩ = false := Blk.frozen hL56 0
    go_simp
    have hL57 := put_at hL56 0 (.slice A 0 d)
    have hB57 := put_off hB56 (fun h => hne h.symm) 0 (.slice A 0 d)
    have hbS57 : Below w1.heap.size w1 (v56.setCell ⟨v55.heap.size, 0, none⟩ (.slice A 0 d)) := Below.setCell hH56.1 gbl56 _
    refine hK.out _ _ ⟨hbS57, hC.out _ hbS57⟩ (fun hH57 => ?_)
    clear hK K z57 y57
    try go_frame
    generalize v56.setCell ⟨v55.heap.size, 0, none⟩ (.slice A 0 d) = v57 at *
    refine wpAnyH_ready (rs := [7]) (by kernel_rfl) (by simp) ?_
    refine consH rfl (fun K hK => ?_) AllReadyH.nil
    have z58 : v57.cell? ⟨wd0.heap.size, 0, none⟩ = some (.slice none 0 0) := Blk.cell hB57 0
    have y58 : v57.frozen? ⟨wd0.heap.size, 0, none⟩ = false := Blk.frozen hB57 0
    go_simp
    have hB58 := put_at hB57 0 (.slice none 0 0)
    have hL58 := put_off hL57 (fun h => (fun h => hne h.symm) h.symm) 0 (.slice none 0 0)
    have hbS58 : Below w1.heap.size w1 (v57.setCell ⟨wd0.heap.size, 0, none⟩ (.slice none 0 0)) := Below.setCell hH57.1 gba53 _
    refine hK.out _ _ ⟨hbS58, hC.out _ hbS58⟩ (fun hH58 => ?_)
    clear hK K z58 y58
    try go_frame
    generalize v57.setCell ⟨wd0.heap.size, 0, none⟩ (.slice none 0 0) = v58 at *
    refine wpAnyH_done (by kernel_rfl) ?_ _
    obtain ⟨bl, hbl⟩ : ∃ b, v55.heap.size = b := ⟨_, rfl⟩
    obtain ⟨ba, hba⟩ : ∃ b, wd0.heap.size = b := ⟨_, rfl⟩
    have hLf := hL58
    have hBf := hB58
    have hbf := hH58.1
    rw [hbl] at hLf
    rw [hba] at hBf
    rw [hbl, hba]
    clear hL58 hB58
    go_wp2_with fail
    have K7 : Blk (v58.alloc (.cells #[.func (.func 24) #[] #[.pointer (some ⟨bl, 0, none⟩)], .func (.func 26) #[] #[.pointer (some ⟨bl, 0, none⟩), .pointer (some ⟨ba, 0, none⟩)], .func (.func 28) #[] #[.pointer (some ⟨w.heap.size, 0, none⟩), .pointer (some ⟨bl, 0, none⟩)], .func (.func 30) #[] #[.pointer (some ⟨w.heap.size + 1, 0, none⟩), .pointer (some ⟨w.heap.size, 0, none⟩), .pointer (some ⟨ba, 0, none⟩)], .func (.func 32) #[] #[.pointer (some ⟨w.heap.size + 1, 0, none⟩), .pointer (some ⟨w.heap.size, 0, none⟩), .pointer (some ⟨bl, 0, none⟩)], .func (.func 34) #[] #[.pointer (some ⟨ba, 0, none⟩)], .func (.func 36) #[] #[.pointer (some ⟨w.heap.size, 0, none⟩)]] 40)) v58.heap.size 40 #[.func (.func 24) #[] #[.pointer (some ⟨bl, 0, none⟩)], .func (.func 26) #[] #[.pointer (some ⟨bl, 0, none⟩), .pointer (some ⟨ba, 0, none⟩)], .func (.func 28) #[] #[.pointer (some ⟨w.heap.size, 0, none⟩), .pointer (some ⟨bl, 0, none⟩)], .func (.func 30) #[] #[.pointer (some ⟨w.heap.size + 1, 0, none⟩), .pointer (some ⟨w.heap.size, 0, none⟩), .pointer (some ⟨ba, 0, none⟩)], .func (.func 32) #[] #[.pointer (some ⟨w.heap.size + 1, 0, none⟩), .pointer (some ⟨w.heap.size, 0, none⟩), .pointer (some ⟨bl, 0, none⟩)], .func (.func 34) #[] #[.pointer (some ⟨ba, 0, none⟩)], .func (.func 36) #[] #[.pointer (some ⟨w.heap.size, 0, none⟩)]] := Blk.new v58 40 _
    have hA7 : Below v58.heap.size v58 (v58.alloc (.cells #[.func (.func 24) #[] #[.pointer (some ⟨bl, 0, none⟩)], .func (.func 26) #[] #[.pointer (some ⟨bl, 0, none⟩), .pointer (some ⟨ba, 0, none⟩)], .func (.func 28) #[] #[.pointer (some ⟨w.heap.size, 0, none⟩), .pointer (some ⟨bl, 0, none⟩)], .func (.func 30) #[] #[.pointer (some ⟨w.heap.size + 1, 0, none⟩), .pointer (some ⟨w.heap.size, 0, none⟩), .pointer (some ⟨ba, 0, none⟩)], .func (.func 32) #[] #[.pointer (some ⟨w.heap.size + 1, 0, none⟩), .pointer (some ⟨w.heap.size, 0, none⟩), .pointer (some ⟨bl, 0, none⟩)], .func (.func 34) #[] #[.pointer (some ⟨ba, 0, none⟩)], .func (.func 36) #[] #[.pointer (some ⟨w.heap.size, 0, none⟩)]] 40)) := below_alloc (Below.refl _ _) _
    have hL7 := Blk.call hLf hA7
    have hB7 := Blk.call hBf hA7
    have hb7 := below_chain hA7 hbf
    generalize v58.alloc (.cells #[.func (.func 24) #[] #[.pointer (some ⟨bl, 0, none⟩)], .func (.func 26) #[] #[.pointer (some ⟨bl, 0, none⟩), .pointer (some ⟨ba, 0, none⟩)], .func (.func 28) #[] #[.pointer (some ⟨w.heap.size, 0, none⟩), .pointer (some ⟨bl, 0, none⟩)], .func (.func 30) #[] #[.pointer (some ⟨w.heap.size + 1, 0, none⟩), .pointer (some ⟨w.heap.size, 0, none⟩), .pointer (some ⟨ba, 0, none⟩)], .func (.func 32) #[] #[.pointer (some ⟨w.heap.size + 1, 0, none⟩), .pointer (some ⟨w.heap.size, 0, none⟩), .pointer (some ⟨bl, 0, none⟩)], .func (.func 34) #[] #[.pointer (some ⟨ba, 0, none⟩)], .func (.func 36) #[] #[.pointer (some ⟨w.heap.size, 0, none⟩)]] 40) = W0 at *
    obtain ⟨gs, hgs⟩ : ∃ g, v58.heap.size = g := ⟨_, rfl⟩
    rw [hgs] at K7
    rw [hgs]
    have hp7 := Blk.call hp1.out hb7
    have hs7 := Blk.call hs1.out hb7
    have hbW := below_chain hb7 hb1.out
    have hszW := hbW.size
    clear hLf hBf hbf hA7 hb7
    go_loopw [8, 27] (fun s i wr => ∃ (j : Nat) (B : Option Addr) (k : Nat), j ≤ 7 ∧ i = .int .i64 (j : Nat) ∧ s = .slice B (oL r j).length k ∧ OwnI wr W0.heap.size B k (oL r j) ∧ Below W0.heap.size W0 wr) (fun _ i _ => 7 - (intOf i).toNat)
    case atStart => exact ⟨0, none, 0, by omega, rfl, by cases r <;> rfl, by cases r <;> exact OwnA.nil _ _, Below.refl _ _⟩
    case round =>
     obtain ⟨j, B, k, hj, rfl, rfl, hO, hb⟩ := hrel
     have hbr := below_chain hb hbW
     replace hO := Lib.hid hO
     have hdone : j = 0 ∨ j = 1 ∨ j = 2 ∨ j = 3 ∨ j = 4 ∨ j = 5 ∨ j = 6 ∨ j = 7 := by omega
     rcases hdone with rfl | rfl | rfl | rfl | rfl | rfl | rfl | rfl
     ·
      have c9 : wr.cell? ⟨gs, 0, none⟩ = some (.func (.func 24) #[] #[.pointer (some ⟨bl, 0, none⟩)]) := (K7.call hb).cell 0
      have q := Lib.hid (chk1 (hL7.call hb) false (EN A d _ hbr))
      go_wp2_with (go_at_call 24; (refine q.out.mono ?_); rintro e w9 ⟨rfl, hb9⟩)
      go_roundw
      case rel => exact ⟨1, B, k, by omega, rfl, by cases r <;> rfl, by have h := OwnA.call hO.out hb9; cases r <;> exact h, below_chain hb9 hb⟩
      case measure => simp [intOf]
     ·
      have c9 : wr.cell? ⟨gs, 1, none⟩ = some (.func (.func 26) #[] #[.pointer (some ⟨bl, 0, none⟩), .pointer (some ⟨ba, 0, none⟩)]) := (K7.call hb).cell 1
      have q := Lib.hid (chk2 (hL7.call hb) (hB7.call hb) false (ST A d _ hbr))
      go_wp2_with (go_at_call 26; (refine q.out.mono ?_); rintro e w9 ⟨rfl, hb9⟩)
      go_roundw
      case rel => exact ⟨2, B, k, by omega, rfl, by cases r <;> rfl, by have h := OwnA.call hO.out hb9; cases r <;> exact h, below_chain hb9 hb⟩
      case measure => simp [intOf]
     ·
      have c9 : wr.cell? ⟨gs, 2, none⟩ = some (.func (.func 28) #[] #[.pointer (some ⟨w.heap.size, 0, none⟩), .pointer (some ⟨bl, 0, none⟩)]) := (K7.call hb).cell 2
      have q := Lib.hid (chk3 (hp7.call hb) (hL7.call hb) false (TW A d _ hbr))
      go_wp2_with (go_at_call 28; (refine q.out.mono ?_); rintro e w9 ⟨rfl, hb9⟩)
      go_roundw
      case rel => exact ⟨3, B, k, by omega, rfl, by cases r <;> rfl, by have h := OwnA.call hO.out hb9; cases r <;> exact h, below_chain hb9 hb⟩
      case measure => simp [intOf]
     ·
      have c9 : wr.cell? ⟨gs, 3, none⟩ = some (.func (.func 30) #[] #[.pointer (some ⟨w.heap.size + 1, 0, none⟩), .pointer (some ⟨w.heap.size, 0, none⟩), .pointer (some ⟨ba, 0, none⟩)]) := (K7.call hb).cell 3
      have q := Lib.hid (chk4 (hs7.call hb) (hp7.call hb) (hB7.call hb) false (LD _ hbr))
      go_wp2_with (go_at_call 30; (refine q.out.mono ?_); rintro e w9 ⟨rfl, hb9⟩)
      go_roundw
      case rel => exact ⟨4, B, k, by omega, rfl, by cases r <;> rfl, by have h := OwnA.call hO.out hb9; cases r <;> exact h, below_chain hb9 hb⟩
      case measure => simp [intOf]
     ·
      have c9 : wr.cell? ⟨gs, 4, none⟩ = some (.func (.func 32) #[] #[.pointer (some ⟨w.heap.size + 1, 0, none⟩), .pointer (some ⟨w.heap.size, 0, none⟩), .pointer (some ⟨bl, 0, none⟩)]) := (K7.call hb).cell 4
      have q := Lib.hid (chk5 (hs7.call hb) (hp7.call hb) (hL7.call hb) r (SL A d _ hbr))
      cases r
      ·
       go_wp2_with (go_at_call 32; (refine q.out.mono ?_); rintro e w9 ⟨rfl, hb9⟩)
       go_roundw
       case rel => exact ⟨5, B, k, by omega, rfl, rfl, OwnA.call hO.out hb9, below_chain hb9 hb⟩
       case measure => simp [intOf]
      ·
       go_wp2_with (first | (go_at_call 32; (refine q.out.mono ?_); rintro e w9 ⟨rfl, hb9⟩; have hO9 := Lib.hid (OwnA.call hO.out hb9); have hb9w := below_chain hb9 hb; have hz9 := hb9w.size) | (at_builtin; refine wpList_push_int rfl (.tmp 34) (.tmp 37) rfl W0.heap.size B k (oL true 4) _ rfl rfl hO9.out _ rfl rfl (by decide) hz9 ?_; intro A2 p2 w7 ho7 hp7))
       have hS7 := hp7.below (w0 := W0) (B := W0.heap.size) hb9w hz9 (fun b hb => (hO9.out.block hb).1)
       replace ho7 := Lib.hid ho7
       go_wp2_with fail
       go_roundw
       case rel => exact ⟨5, A2, p2, by omega, rfl, rfl, ho7.out, hS7⟩
       case measure => simp [intOf]
     ·
      have c9 : wr.cell? ⟨gs, 5, none⟩ = some (.func (.func 34) #[] #[.pointer (some ⟨ba, 0, none⟩)]) := (K7.call hb).cell 5
      have q := Lib.hid (chk6 (hB7.call hb) false (OR _ hbr))
      go_wp2_with (go_at_call 34; (refine q.out.mono ?_); rintro e w9 ⟨rfl, hb9⟩)
      go_roundw
      case rel => exact ⟨6, B, k, by omega, rfl, by cases r <;> rfl, by have h := OwnA.call hO.out hb9; cases r <;> exact h, below_chain hb9 hb⟩
      case measure => simp [intOf]
     ·
      have c9 : wr.cell? ⟨gs, 6, none⟩ = some (.func (.func 36) #[] #[.pointer (some ⟨w.heap.size, 0, none⟩)]) := (K7.call hb).cell 6
      have q := Lib.hid (chk7 (hp7.call hb) BV false (BD _ hbr) (fun w9 h9 => BO w9 (below_chain h9 hbr)))
      go_wp2_with (go_at_call 36; (refine q.out.mono ?_); rintro e w9 ⟨rfl, hb9⟩)
      go_roundw
      case rel => exact ⟨7, B, k, by omega, rfl, by cases r <;> rfl, by have h := OwnA.call hO.out hb9; cases r <;> exact h, below_chain hb9 hb⟩
      case measure => simp [intOf]
     ·
      go_wp2_with fail
      go_ret
      exact ⟨B, k, rfl, ⟨hO.out.1, hO.out.2.imp (fun x => x) fun ⟨g, cap, cur, a, b, c⟩ => ⟨g, cap, cur, a, Nat.le_trans hszW b, c⟩⟩, hbr⟩
   refine consH rfl (fun K hK => ?_) AllReadyH.nil
   ·
    go_simp
    have hbA59 : Below v54.heap.size v54 (v54.alloc (.cells #[.slice none 0 0] 76)) := below_alloc (Below.refl _ _) _
    have hL59 : Blk (v54.alloc (.cells #[.slice none 0 0] 76)) v54.heap.size 76 #[.slice none 0 0] := Blk.new v54 76 #[.slice none 0 0]
    have gbl59 : w1.heap.size ≤ v54.heap.size := hH54.1.size
    have hB59 := Blk.call hB54 hbA59
    have hne : ¬ wd0.heap.size = v54.heap.size := Nat.ne_of_lt (Blk.lt hB54)
    have hbS59 := below_chain hbA59 hH54.1
    refine hK.out _ _ ⟨hbS59, hC.out _ hbS59⟩ (fun hH59 => ?_)
    clear hK K
    try go_frame
    generalize v54.alloc (.cells #[.slice none 0 0] 76) = v59 at *
    refine wpAnyH_ready (rs := [3]) (by kernel_rfl) (by simp) ?_
    refine consH rfl (fun K hK => ?_) AllReadyH.nil
    go_simp
    (go_at_call 23; (with_reducible refine (LS.out _ (below_chain hH59.1 hb1.out)).mono ?_))
    rintro e v60 ⟨rfl, hb60⟩
    have hbS60 := below_chain hb60 hH59.1
    have hL60 := Blk.call hL59 hb60
    have hB60 := Blk.call hB59 hb60
    refine hK.out _ _ ⟨hbS60, hC.out _ hbS60⟩ (fun hH60 => ?_)
    clear hK K
    try go_frame
    refine wpAnyH_ready (rs := [6]) (by kernel_rfl) (by simp) ?_
    refine consH rfl (fun K hK => ?_) AllReadyH.nil
    have z61 : v60.cell? ⟨v54.heap.size, 0, none⟩ = some (.slice none 0 0) := Blk.cell hL60 0
    have y61 : v60.frozen? ⟨v54.heap.size, 0, none⟩ = false := Blk.frozen hL60 0
    go_simp
    have hL61 := put_at hL60 0 (.slice A 0 d)
    have hB61 := put_off hB60 (fun h => hne h.symm) 0 (.slice A 0 d)
    have hbS61 : Below w1.heap.size w1 (v60.setCell ⟨v54.heap.size, 0, none⟩ (.slice A 0 d)) := Below.setCell hH60.1 gbl59 _
    refine hK.out _ _ ⟨hbS61, hC.out _ hbS61⟩ (fun hH61 => ?_)
    clear hK K z61 y61
    try go_frame
    generalize v60.setCell ⟨v54.heap.size, 0, none⟩ (.slice A 0 d) = v61 at *
    refine wpAnyH_ready (rs := [7]) (by kernel_rfl) (by simp) ?_
    refine consH rfl (fun K hK => ?_) AllReadyH.nil
    have z62 : v61.cell? ⟨wd0.heap.size, 0, none⟩ = some (.slice none 0 0) := Blk.cell hB61 0
    have y62 : v61.frozen? ⟨wd0.heap.size, 0, none⟩ = false := Blk.frozen hB61 0
    go_simp
    have hB62 := put_at hB61 0 (.slice none 0 0)
    have hL62 := put_off hL61 (fun h => (fun h => hne h.symm) h.symm) 0 (.slice none 0 0)
    have hbS62 : Below w1.heap.size w1 (v61.setCell ⟨wd0.heap.size, 0, none⟩ (.slice none 0 0)) := Below.setCell hH61.1 gba53 _
    refine hK.out _ _ ⟨hbS62, hC.out _ hbS62⟩ (fun hH62 => ?_)
    clear hK K z62 y62
    try go_frame
    generalize v61.setCell ⟨wd0.heap.size, 0, none⟩ (.slice none 0 0) = v62 at *
    refine wpAnyH_done (by kernel_rfl) ?_ _
    obtain ⟨bl, hbl⟩ : ∃ b, v54.heap.size = b := ⟨_, rfl⟩
    obtain ⟨ba, hba⟩ : ∃ b, wd0.heap.size = b := ⟨_, rfl⟩
    have hLf := hL62
    have hBf := hB62
    have hbf := hH62.1
    rw [hbl] at hLf
    rw [hba] at hBf
    rw [hbl, hba]
    clear hL62 hB62
    go_wp2_with fail
    have K7 : Blk (v62.alloc (.cells #[.func (.func 24) #[] #[.pointer (some ⟨bl, 0, none⟩)], .func (.func 26) #[] #[.pointer (some ⟨bl, 0, none⟩), .pointer (some ⟨ba, 0, none⟩)], .func (.func 28) #[] #[.pointer (some ⟨w.heap.size, 0, none⟩), .pointer (some ⟨bl, 0, none⟩)], .func (.func 30) #[] #[.pointer (some ⟨w.heap.size + 1, 0, none⟩), .pointer (some ⟨w.heap.size, 0, none⟩), .pointer (some ⟨ba, 0, none⟩)], .func (.func 32) #[] #[.pointer (some ⟨w.heap.size + 1, 0, none⟩), .pointer (some ⟨w.heap.size, 0, none⟩), .pointer (some ⟨bl, 0, none⟩)], .func (.func 34) #[] #[.pointer (some ⟨ba, 0, none⟩)], .func (.func 36) #[] #[.pointer (some ⟨w.heap.size, 0, none⟩)]] 40)) v62.heap.size 40 #[.func (.func 24) #[] #[.pointer (some ⟨bl, 0, none⟩)], .func (.func 26) #[] #[.pointer (some ⟨bl, 0, none⟩), .pointer (some ⟨ba, 0, none⟩)], .func (.func 28) #[] #[.pointer (some ⟨w.heap.size, 0, none⟩), .pointer (some ⟨bl, 0, none⟩)], .func (.func 30) #[] #[.pointer (some ⟨w.heap.size + 1, 0, none⟩), .pointer (some ⟨w.heap.size, 0, none⟩), .pointer (some ⟨ba, 0, none⟩)], .func (.func 32) #[] #[.pointer (some ⟨w.heap.size + 1, 0, none⟩), .pointer (some ⟨w.heap.size, 0, none⟩), .pointer (some ⟨bl, 0, none⟩)], .func (.func 34) #[] #[.pointer (some ⟨ba, 0, none⟩)], .func (.func 36) #[] #[.pointer (some ⟨w.heap.size, 0, none⟩)]] := Blk.new v62 40 _
    have hA7 : Below v62.heap.size v62 (v62.alloc (.cells #[.func (.func 24) #[] #[.pointer (some ⟨bl, 0, none⟩)], .func (.func 26) #[] #[.pointer (some ⟨bl, 0, none⟩), .pointer (some ⟨ba, 0, none⟩)], .func (.func 28) #[] #[.pointer (some ⟨w.heap.size, 0, none⟩), .pointer (some ⟨bl, 0, none⟩)], .func (.func 30) #[] #[.pointer (some ⟨w.heap.size + 1, 0, none⟩), .pointer (some ⟨w.heap.size, 0, none⟩), .pointer (some ⟨ba, 0, none⟩)], .func (.func 32) #[] #[.pointer (some ⟨w.heap.size + 1, 0, none⟩), .pointer (some ⟨w.heap.size, 0, none⟩), .pointer (some ⟨bl, 0, none⟩)], .func (.func 34) #[] #[.pointer (some ⟨ba, 0, none⟩)], .func (.func 36) #[] #[.pointer (some ⟨w.heap.size, 0, none⟩)]] 40)) := below_alloc (Below.refl _ _) _
    have hL7 := Blk.call hLf hA7
    have hB7 := Blk.call hBf hA7
    have hb7 := below_chain hA7 hbf
    generalize v62.alloc (.cells #[.func (.func 24) #[] #[.pointer (some ⟨bl, 0, none⟩)], .func (.func 26) #[] #[.pointer (some ⟨bl, 0, none⟩), .pointer (some ⟨ba, 0, none⟩)], .func (.func 28) #[] #[.pointer (some ⟨w.heap.size, 0, none⟩), .pointer (some ⟨bl, 0, none⟩)], .func (.func 30) #[] #[.pointer (some ⟨w.heap.size + 1, 0, none⟩), .pointer (some ⟨w.heap.size, 0, none⟩), .pointer (some ⟨ba, 0, none⟩)], .func (.func 32) #[] #[.pointer (some ⟨w.heap.size + 1, 0, none⟩), .pointer (some ⟨w.heap.size, 0, none⟩), .pointer (some ⟨bl, 0, none⟩)], .func (.func 34) #[] #[.pointer (some ⟨ba, 0, none⟩)], .func (.func 36) #[] #[.pointer (some ⟨w.heap.size, 0, none⟩)]] 40) = W0 at *
    obtain ⟨gs, hgs⟩ : ∃ g, v62.heap.size = g := ⟨_, rfl⟩
    rw [hgs] at K7
    rw [hgs]
    have hp7 := Blk.call hp1.out hb7
    have hs7 := Blk.call hs1.out hb7
    have hbW := below_chain hb7 hb1.out
    have hszW := hbW.size
    clear hLf hBf hbf hA7 hb7
    go_loopw [8, 27] (fun s i wr => ∃ (j : Nat) (B : Option Addr) (k : Nat), j ≤ 7 ∧ i = .int .i64 (j : Nat) ∧ s = .slice B (oL r j).length k ∧ OwnI wr W0.heap.size B k (oL r j) ∧ Below W0.heap.size W0 wr) (fun _ i _ => 7 - (intOf i).toNat)
    case atStart => exact ⟨0, none, 0, by omega, rfl, by cases r <;> rfl, by cases r <;> exact OwnA.nil _ _, Below.refl _ _⟩
    case round =>
     obtain ⟨j, B, k, hj, rfl, rfl, hO, hb⟩ := hrel
     have hbr := below_chain hb hbW
     replace hO := Lib.hid hO
     have hdone : j = 0 ∨ j = 1 ∨ j = 2 ∨ j = 3 ∨ j = 4 ∨ j = 5 ∨ j = 6 ∨ j = 7 := by omega
     rcases hdone with rfl | rfl | rfl | rfl | rfl | rfl | rfl | rfl
     ·
      have c9 : wr.cell? ⟨gs, 0, none⟩ = some (.func (.func 24) #[] #[.pointer (some ⟨bl, 0, none⟩)]) := (K7.call hb).cell 0
      have q := Lib.hid (chk1 (hL7.call hb) false (EN A d _ hbr))
      go_wp2_with (go_at_call 24; (refine q.out.mono ?_); rintro e w9 ⟨rfl, hb9⟩)
      go_roundw
      case rel => exact ⟨1, B, k, by omega, rfl, by cases r <;> rfl, by have h := OwnA.call hO.out hb9; cases r <;> exact h, below_chain hb9 hb⟩
      case measure => simp [intOf]
     ·
      have c9 : wr.cell? ⟨gs, 1, none⟩ = some (.func (.func 26) #[] #[.pointer (some ⟨bl, 0, none⟩), .pointer (some ⟨ba, 0, none⟩)]) := (K7.call hb).cell 1
      have q := Lib.hid (chk2 (hL7.call hb) (hB7.call hb) false (ST A d _ hbr))
      go_wp2_with (go_at_call 26; (refine q.out.mono ?_); rintro e w9 ⟨rfl, hb9⟩)
      go_roundw
      case rel => exact ⟨2, B, k, by omega, rfl, by cases r <;> rfl, by have h := OwnA.call hO.out hb9; cases r <;> exact h, below_chain hb9 hb⟩
      case measure => simp [intOf]
     ·
      have c9 : wr.cell? ⟨gs, 2, none⟩ = some (.func (.func 28) #[] #[.pointer (some ⟨w.heap.size, 0, none⟩), .pointer (some ⟨bl, 0, none⟩)]) := (K7.call hb).cell 2
      have q := Lib.hid (chk3 (hp7.call hb) (hL7.call hb) false (TW A d _ hbr))
      go_wp2_with (go_at_call 28; (refine q.out.mono ?_); rintro e w9 ⟨rfl, hb9⟩)
      go_roundw
      case rel => exact ⟨3, B, k, by omega, rfl, by cases r <;> rfl, by have h := OwnA.call hO.out hb9; cases r <;> exact h, below_chain hb9 hb⟩
      case measure => simp [intOf]
     ·
      have c9 : wr.cell? ⟨gs, 3, none⟩ = some (.func (.func 30) #[] #[.pointer (some ⟨w.heap.size + 1, 0, none⟩), .pointer (some ⟨w.heap.size, 0, none⟩), .pointer (some ⟨ba, 0, none⟩)]) := (K7.call hb).cell 3
      have q := Lib.hid (chk4 (hs7.call hb) (hp7.call hb) (hB7.call hb) false (LD _ hbr))
      go_wp2_with (go_at_call 30; (refine q.out.mono ?_); rintro e w9 ⟨rfl, hb9⟩)
      go_roundw
      case rel => exact ⟨4, B, k, by omega, rfl, by cases r <;> rfl, by have h := OwnA.call hO.out hb9; cases r <;> exact h, below_chain hb9 hb⟩
      case measure => simp [intOf]
     ·
      have c9 : wr.cell? ⟨gs, 4, none⟩ = some (.func (.func 32) #[] #[.pointer (some ⟨w.heap.size + 1, 0, none⟩), .pointer (some ⟨w.heap.size, 0, none⟩), .pointer (some ⟨bl, 0, none⟩)]) := (K7.call hb).cell 4
      have q := Lib.hid (chk5 (hs7.call hb) (hp7.call hb) (hL7.call hb) r (SL A d _ hbr))
      cases r
      ·
       go_wp2_with (go_at_call 32; (refine q.out.mono ?_); rintro e w9 ⟨rfl, hb9⟩)
       go_roundw
       case rel => exact ⟨5, B, k, by omega, rfl, rfl, OwnA.call hO.out hb9, below_chain hb9 hb⟩
       case measure => simp [intOf]
      ·
       go_wp2_with (first | (go_at_call 32; (refine q.out.mono ?_); rintro e w9 ⟨rfl, hb9⟩; have hO9 := Lib.hid (OwnA.call hO.out hb9); have hb9w := below_chain hb9 hb; have hz9 := hb9w.size) | (at_builtin; refine wpList_push_int rfl (.tmp 34) (.tmp 37) rfl W0.heap.size B k (oL true 4) _ rfl rfl hO9.out _ rfl rfl (by decide) hz9 ?_; intro A2 p2 w7 ho7 hp7))
       have hS7 := hp7.below (w0 := W0) (B := W0.heap.size) hb9w hz9 (fun b hb => (hO9.out.block hb).1)
       replace ho7 := Lib.hid ho7
       go_wp2_with fail
       go_roundw
       case rel => exact ⟨5, A2, p2, by omega, rfl, rfl, ho7.out, hS7⟩
       case measure => simp [intOf]
     ·
      have c9 : wr.cell? ⟨gs, 5, none⟩ = some (.func (.func 34) #[] #[.pointer (some ⟨ba, 0, none⟩)]) := (K7.call hb).cell 5
      have q := Lib.hid (chk6 (hB7.call hb) false (OR _ hbr))
      go_wp2_with (go_at_call 34; (refine q.out.mono ?_); rintro e w9 ⟨rfl, hb9⟩)
      go_roundw
      case rel => exact ⟨6, B, k, by omega, rfl, by cases r <;> rfl, by have h := OwnA.call hO.out hb9; cases r <;> exact h, below_chain hb9 hb⟩
      case measure => simp [intOf]
     ·
      have c9 : wr.cell? ⟨gs, 6, none⟩ = some (.func (.func 36) #[] #[.pointer (some ⟨w.heap.size, 0, none⟩)]) := (K7.call hb).cell 6
      have q := Lib.hid (chk7 (hp7.call hb) BV false (BD _ hbr) (fun w9 h9 => BO w9 (below_chain h9 hbr)))
      go_wp2_with (go_at_call 36; (refine q.out.mono ?_); rintro e w9 ⟨rfl, hb9⟩)
      go_roundw
      case rel => exact ⟨7, B, k, by omega, rfl, by cases r <;> rfl, by have h := OwnA.call hO.out hb9; cases r <;> exact h, below_chain hb9 hb⟩
      case measure => simp [intOf]
     ·
      go_wp2_with fail
      go_ret
      exact ⟨B, k, rfl, ⟨hO.out.1, hO.out.2.imp (fun x => x) fun ⟨g, cap, cur, a, b, c⟩ => ⟨g, cap, cur, a, Nat.le_trans hszW b, c⟩⟩, hbr⟩
  refine consH rfl (fun K hK => ?_) AllReadyH.nil
  ·
   go_simp
   have hbA63 : Below v53.heap.size v53 (v53.alloc (.cells #[.slice none 0 0] 76)) := below_alloc (Below.refl _ _) _
   have hL63 : Blk (v53.alloc (.cells #[.slice none 0 0] 76)) v53.heap.size 76 #[.slice none 0 0] := Blk.new v53 76 #[.slice none 0 0]
   have gbl63 : w1.heap.size ≤ v53.heap.size := hH53.1.size
   have hB63 := Blk.call hB53 hbA63
   have hne : ¬ wd0.heap.size = v53.heap.size := Nat.ne_of_lt (Blk.lt hB53)
   have hbS63 := below_chain hbA63 hH53.1
   refine hK.out _ _ ⟨hbS63, hC.out _ hbS63⟩ (fun hH63 => ?_)
   clear hK K
   try go_frame
   generalize v53.alloc (.cells #[.slice none 0 0] 76) = v63 at *
   refine wpAnyH_ready (rs := [1]) (by kernel_rfl) (by simp) ?_
   refine consH rfl (fun K hK => ?_) AllReadyH.nil
   go_simp
   (go_at_call 22; (with_reducible refine (LV.out _ (below_chain hH63.1 hb1.out)).mono ?_))
   rintro e v64 ⟨A, d, rfl, hb64⟩
   have hbS64 := below_chain hb64 hH63.1
   have hL64 := Blk.call hL63 hb64
   have hB64 := Blk.call hB63 hb64
   refine hK.out _ _ ⟨hbS64, hC.out _ hbS64⟩ (fun hH64 => ?_)
   clear hK K
   try go_frame
   refine wpAnyH_ready (rs := [3]) (by kernel_rfl) (by simp) ?_
   refine consH rfl (fun K hK => ?_) AllReadyH.nil
   go_simp
   (go_at_call 23; (with_reducible refine (LS.out _ (below_chain hH64.1 hb1.out)).mono ?_))
   rintro e v65 ⟨rfl, hb65⟩
   have hbS65 := below_chain hb65 hH64.1
   have hL65 := Blk.call hL64 hb65
   have hB65 := Blk.call hB64 hb65
   refine hK.out _ _ ⟨hbS65, hC.out _ hbS65⟩ (fun hH65 => ?_)
   clear hK K
   try go_frame
   refine wpAnyH_ready (rs := [6]) (by kernel_rfl) (by simp) ?_
   refine consH rfl (fun K hK => ?_) AllReadyH.nil
   have z66 : v65.cell? ⟨v53.heap.size, 0, none⟩ = some (.slice none 0 0) := Blk.cell hL65 0
   have y66 : v65.frozen? ⟨v53.heap.size, 0, none⟩ = false := Blk.frozen hL65 0
   go_simp
   have hL66 := put_at hL65 0 (.slice A 0 d)
   have hB66 := put_off hB65 (fun h => hne h.symm) 0 (.slice A 0 d)
   have hbS66 : Below w1.heap.size w1 (v65.setCell ⟨v53.heap.size, 0, none⟩ (.slice A 0 d)) := Below.setCell hH65.1 gbl63 _
   refine hK.out _ _ ⟨hbS66, hC.out _ hbS66⟩ (fun hH66 => ?_)
   clear hK K z66 y66
   try go_frame
   generalize v65.setCell ⟨v53.heap.size, 0, none⟩ (.slice A 0 d) = v66 at *
   refine wpAnyH_ready (rs := [7]) (by kernel_rfl) (by simp) ?_
   refine consH rfl (fun K hK => ?_) AllReadyH.nil
   have z67 : v66.cell? ⟨wd0.heap.size, 0, none⟩ = some (.slice none 0 0) := Blk.cell hB66 0
   have y67 : v66.frozen? ⟨wd0.heap.size, 0, none⟩ = false := Blk.frozen hB66 0
   go_simp
   have hB67 := put_at hB66 0 (.slice none 0 0)
   have hL67 := put_off hL66 (fun h => (fun h => hne h.symm) h.symm) 0 (.slice none 0 0)
   have hbS67 : Below w1.heap.size w1 (v66.setCell ⟨wd0.heap.size, 0, none⟩ (.slice none 0 0)) := Below.setCell hH66.1 gba53 _
   refine hK.out _ _ ⟨hbS67, hC.out _ hbS67⟩ (fun hH67 => ?_)
   clear hK K z67 y67
   try go_frame
   generalize v66.setCell ⟨wd0.heap.size, 0, none⟩ (.slice none 0 0) = v67 at *
   refine wpAnyH_done (by kernel_rfl) ?_ _
   obtain ⟨bl, hbl⟩ : ∃ b, v53.heap.size = b := ⟨_, rfl⟩
   obtain ⟨ba, hba⟩ : ∃ b, wd0.heap.size = b := ⟨_, rfl⟩
   have hLf := hL67
   have hBf := hB67
   have hbf := hH67.1
   rw [hbl] at hLf
   rw [hba] at hBf
   rw [hbl, hba]
   clear hL67 hB67
   go_wp2_with fail
   have K7 : Blk (v67.alloc (.cells #[.func (.func 24) #[] #[.pointer (some ⟨bl, 0, none⟩)], .func (.func 26) #[] #[.pointer (some ⟨bl, 0, none⟩), .pointer (some ⟨ba, 0, none⟩)], .func (.func 28) #[] #[.pointer (some ⟨w.heap.size, 0, none⟩), .pointer (some ⟨bl, 0, none⟩)], .func (.func 30) #[] #[.pointer (some ⟨w.heap.size + 1, 0, none⟩), .pointer (some ⟨w.heap.size, 0, none⟩), .pointer (some ⟨ba, 0, none⟩)], .func (.func 32) #[] #[.pointer (some ⟨w.heap.size + 1, 0, none⟩), .pointer (some ⟨w.heap.size, 0, none⟩), .pointer (some ⟨bl, 0, none⟩)], .func (.func 34) #[] #[.pointer (some ⟨ba, 0, none⟩)], .func (.func 36) #[] #[.pointer (some ⟨w.heap.size, 0, none⟩)]] 40)) v67.heap.size 40 #[.func (.func 24) #[] #[.pointer (some ⟨bl, 0, none⟩)], .func (.func 26) #[] #[.pointer (some ⟨bl, 0, none⟩), .pointer (some ⟨ba, 0, none⟩)], .func (.func 28) #[] #[.pointer (some ⟨w.heap.size, 0, none⟩), .pointer (some ⟨bl, 0, none⟩)], .func (.func 30) #[] #[.pointer (some ⟨w.heap.size + 1, 0, none⟩), .pointer (some ⟨w.heap.size, 0, none⟩), .pointer (some ⟨ba, 0, none⟩)], .func (.func 32) #[] #[.pointer (some ⟨w.heap.size + 1, 0, none⟩), .pointer (some ⟨w.heap.size, 0, none⟩), .pointer (some ⟨bl, 0, none⟩)], .func (.func 34) #[] #[.pointer (some ⟨ba, 0, none⟩)], .func (.func 36) #[] #[.pointer (some ⟨w.heap.size, 0, none⟩)]] := Blk.new v67 40 _
   have hA7 : Below v67.heap.size v67 (v67.alloc (.cells #[.func (.func 24) #[] #[.pointer (some ⟨bl, 0, none⟩)], .func (.func 26) #[] #[.pointer (some ⟨bl, 0, none⟩), .pointer (some ⟨ba, 0, none⟩)], .func (.func 28) #[] #[.pointer (some ⟨w.heap.size, 0, none⟩), .pointer (some ⟨bl, 0, none⟩)], .func (.func 30) #[] #[.pointer (some ⟨w.heap.size + 1, 0, none⟩), .pointer (some ⟨w.heap.size, 0, none⟩), .pointer (some ⟨ba, 0, none⟩)], .func (.func 32) #[] #[.pointer (some ⟨w.heap.size + 1, 0, none⟩), .pointer (some ⟨w.heap.size, 0, none⟩), .pointer (some ⟨bl, 0, none⟩)], .func (.func 34) #[] #[.pointer (some ⟨ba, 0, none⟩)], .func (.func 36) #[] #[.pointer (some ⟨w.heap.size, 0, none⟩)]] 40)) := below_alloc (Below.refl _ _) _
   have hL7 := Blk.call hLf hA7
   have hB7 := Blk.call hBf hA7
   have hb7 := below_chain hA7 hbf
   generalize v67.alloc (.cells #[.func (.func 24) #[] #[.pointer (some ⟨bl, 0, none⟩)], .func (.func 26) #[] #[.pointer (some ⟨bl, 0, none⟩), .pointer (some ⟨ba, 0, none⟩)], .func (.func 28) #[] #[.pointer (some ⟨w.heap.size, 0, none⟩), .pointer (some ⟨bl, 0, none⟩)], .func (.func 30) #[] #[.pointer (some ⟨w.heap.size + 1, 0, none⟩), .pointer (some ⟨w.heap.size, 0, none⟩), .pointer (some ⟨ba, 0, none⟩)], .func (.func 32) #[] #[.pointer (some ⟨w.heap.size + 1, 0, none⟩), .pointer (some ⟨w.heap.size, 0, none⟩), .pointer (some ⟨bl, 0, none⟩)], .func (.func 34) #[] #[.pointer (some ⟨ba, 0, none⟩)], .func (.func 36) #[] #[.pointer (some ⟨w.heap.size, 0, none⟩)]] 40) = W0 at *
   obtain ⟨gs, hgs⟩ : ∃ g, v67.heap.size = g := ⟨_, rfl⟩
   rw [hgs] at K7
   rw [hgs]
   have hp7 := Blk.call hp1.out hb7
   have hs7 := Blk.call hs1.out hb7
   have hbW := below_chain hb7 hb1.out
   have hszW := hbW.size
   clear hLf hBf hbf hA7 hb7
   go_loopw [8, 27] (fun s i wr => ∃ (j : Nat) (B : Option Addr) (k : Nat), j ≤ 7 ∧ i = .int .i64 (j : Nat) ∧ s = .slice B (oL r j).length k ∧ OwnI wr W0.heap.size B k (oL r j) ∧ Below W0.heap.size W0 wr) (fun _ i _ => 7 - (intOf i).toNat)
   case atStart => exact ⟨0, none, 0, by omega, rfl, by cases r <;> rfl, by cases r <;> exact OwnA.nil _ _, Below.refl _ _⟩
   case round =>
    obtain ⟨j, B, k, hj, rfl, rfl, hO, hb⟩ := hrel
    have hbr := below_chain hb hbW
    replace hO := Lib.hid hO
    have hdone : j = 0 ∨ j = 1 ∨ j = 2 ∨ j = 3 ∨ j = 4 ∨ j = 5 ∨ j = 6 ∨ j = 7 := by omega
    rcases hdone with rfl | rfl | rfl | rfl | rfl | rfl | rfl | rfl
    ·
     have c9 : wr.cell? ⟨gs, 0, none⟩ = some (.func (.func 24) #[] #[.pointer (some ⟨bl, 0, none⟩)]) := (K7.call hb).cell 0
     have q := Lib.hid (chk1 (hL7.call hb) false (EN A d _ hbr))
     go_wp2_with (go_at_call 24; (refine q.out.mono ?_); rintro e w9 ⟨rfl, hb9⟩)
     go_roundw
     case rel => exact ⟨1, B, k, by omega, rfl, by cases r <;> rfl, by have h := OwnA.call hO.out hb9; cases r <;> exact h, below_chain hb9 hb⟩
     case measure => simp [intOf]
    ·
     have c9 : wr.cell? ⟨gs, 1, none⟩ = some (.func (.func 26) #[] #[.pointer (some ⟨bl, 0, none⟩), .pointer (some ⟨ba, 0, none⟩)]) := (K7.call hb).cell 1
     have q := Lib.hid (chk2 (hL7.call hb) (hB7.call hb) false (ST A d _ hbr))
     go_wp2_with (go_at_call 26; (refine q.out.mono ?_); rintro e w9 ⟨rfl, hb9⟩)
     go_roundw
     case rel => exact ⟨2, B, k, by omega, rfl, by cases r <;> rfl, by have h := OwnA.call hO.out hb9; cases r <;> exact h, below_chain hb9 hb⟩
     case measure => simp [intOf]
    ·
     have c9 : wr.cell? ⟨gs, 2, none⟩ = some (.func (.func 28) #[] #[.pointer (some ⟨w.heap.size, 0, none⟩), .pointer (some ⟨bl, 0, none⟩)]) := (K7.call hb).cell 2
     have q := Lib.hid (chk3 (hp7.call hb) (hL7.call hb) false (TW A d _ hbr))
     go_wp2_with (go_at_call 28; (refine q.out.mono ?_); rintro e w9 ⟨rfl, hb9⟩)
     go_roundw
     case rel => exact ⟨3, B, k, by omega, rfl, by cases r <;> rfl, by have h := OwnA.call hO.out hb9; cases r <;> exact h, below_chain hb9 hb⟩
     case measure => simp [intOf]
    ·
     have c9 : wr.cell? ⟨gs, 3, none⟩ = some (.func (.func 30) #[] #[.pointer (some ⟨w.heap.size + 1, 0, none⟩), .pointer (some ⟨w.heap.size, 0, none⟩), .pointer (some ⟨ba, 0, none⟩)]) := (K7.call hb).cell 3
     have q := Lib.hid (chk4 (hs7.call hb) (hp7.call hb) (hB7.call hb) false (LD _ hbr))
     go_wp2_with (go_at_call 30; (refine q.out.mono ?_); rintro e w9 ⟨rfl, hb9⟩)
     go_roundw
     case rel => exact ⟨4, B, k, by omega, rfl, by cases r <;> rfl, by have h := OwnA.call hO.out hb9; cases r <;> exact h, below_chain hb9 hb⟩
     case measure => simp [intOf]
    ·
     have c9 : wr.cell? ⟨gs, 4, none⟩ = some (.func (.func 32) #[] #[.pointer (some ⟨w.heap.size + 1, 0, none⟩), .pointer (some ⟨w.heap.size, 0, none⟩), .pointer (some ⟨bl, 0, none⟩)]) := (K7.call hb).cell 4
     have q := Lib.hid (chk5 (hs7.call hb) (hp7.call hb) (hL7.call hb) r (SL A d _ hbr))
     cases r
     ·
      go_wp2_with (go_at_call 32; (refine q.out.mono ?_); rintro e w9 ⟨rfl, hb9⟩)
      go_roundw
      case rel => exact ⟨5, B, k, by omega, rfl, rfl, OwnA.call hO.out hb9, below_chain hb9 hb⟩
      case measure => simp [intOf]
     ·
      go_wp2_with (first | (go_at_call 32; (refine q.out.mono ?_); rintro e w9 ⟨rfl, hb9⟩; have hO9 := Lib.hid (OwnA.call hO.out hb9); have hb9w := below_chain hb9 hb; have hz9 := hb9w.size) | (at_builtin; refine wpList_push_int rfl (.tmp 34) (.tmp 37) rfl W0.heap.size B k (oL true 4) _ rfl rfl hO9.out _ rfl rfl (by decide) hz9 ?_; intro A2 p2 w7 ho7 hp7))
      have hS7 := hp7.below (w0 := W0) (B := W0.heap.size) hb9w hz9 (fun b hb => (hO9.out.block hb).1)
      replace ho7 := Lib.hid ho7
      go_wp2_with fail
      go_roundw
      case rel => exact ⟨5, A2, p2, by omega, rfl, rfl, ho7.out, hS7⟩
      case measure => simp [intOf]
    ·
     have c9 : wr.cell? ⟨gs, 5, none⟩ = some (.func (.func 34) #[] #[.pointer (some ⟨ba, 0, none⟩)]) := (K7.call hb).cell 5
     have q := Lib.hid (chk6 (hB7.call hb) false (OR _ hbr))
     go_wp2_with (go_at_call 34; (refine q.out.mono ?_); rintro e w9 ⟨rfl, hb9⟩)
     go_roundw
     case rel => exact ⟨6, B, k, by omega, rfl, by cases r <;> rfl, by have h := OwnA.call hO.out hb9; cases r <;> exact h, below_chain hb9 hb⟩
     case measure => simp [intOf]
    ·
     have c9 : wr.cell? ⟨gs, 6, none⟩ = some (.func (.func 36) #[] #[.pointer (some ⟨w.heap.size, 0, none⟩)]) := (K7.call hb).cell 6
     have q := Lib.hid (chk7 (hp7.call hb) BV false (BD _ hbr) (fun w9 h9 => BO w9 (below_chain h9 hbr)))
     go_wp2_with (go_at_call 36; (refine q.out.mono ?_); rintro e w9 ⟨rfl, hb9⟩)
     go_roundw
     case rel => exact ⟨7, B, k, by omega, rfl, by cases r <;> rfl, by have h := OwnA.call hO.out hb9; cases r <;> exact h, below_chain hb9 hb⟩
     case measure => simp [intOf]
    ·
     go_wp2_with fail
     go_ret
     exact ⟨B, k, rfl, ⟨hO.out.1, hO.out.2.imp (fun x => x) fun ⟨g, cap, cur, a, b, c⟩ => ⟨g, cap, cur, a, Nat.le_trans hszW b, c⟩⟩, hbr⟩
end Go.Proofs.YtohapcacckapoaaGreat
