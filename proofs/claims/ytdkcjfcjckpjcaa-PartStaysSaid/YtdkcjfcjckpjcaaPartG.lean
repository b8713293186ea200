/- part: the law PartStays, called. -/
import Derived.Test.YtdkcjfcjckpjcaaPartF
namespace Go.Proofs.Ytdkcjfcjckpjcaa
open Go Go.RowKit Go.Deep

theorem bools_one (xs : List Bool) : ∀ u ∈ xs.map Value.bool, u.oneCell' = true := by
  intro u hu
  obtain ⟨x, _, rfl⟩ := List.mem_map.1 hu
  rfl
theorem info_bool : (Try.prog.info? 4).map (fun i => (i.zero, i.size, i.bytes)) = some (some (.bool false), 1, 1) := by kernel_rfl

set_option maxRecDepth 100000 in
set_option maxHeartbeats 8000000 in
theorem partStays_calls (a b : Int) (t : Tup) (n : Nat) (A : Option Addr) (c : Nat) (l : List Tup) (D : Option Addr) (d : Nat) (al : List Bool) (gone : Nat) (w : World) (hn : n < 256) (hg : gone < 256)
    (hr : Reads w w.heap.size 9 A l.length (l.flatMap Tup.cells)) (hl : l.length ≤ 9223372036854775807) (hr2 : Reads w w.heap.size 1 D al.length (al.map .bool)) (hl2 : al.length ≤ 9223372036854775807) :
    Calls Try.prog 15 #[.agg #[.int .u64 a, .int .u64 b], t.val, .int .u8 n, .slice A l.length c, .slice D al.length d, .int .u8 gone] w fun e w' => e = .returned (.bool true) ∧ Below w.heap.size w w' := by
  by_cases h1 : 30 < l.length
  · have h1i : decide ((30 : Int) < (l.length : Int)) = true := by simp; omega
    obtain ⟨p, v, hi, lo, v', hi', lo', sp, dp⟩ := t
    unfold Tup.val
    go_enter Try.func15, Try.ntmps15
    go_wp2_with (go_at_call 90; refine (awake15 _).mono ?_; rintro e w1 ⟨rfl, hb1⟩)
    go_ret
    exact ⟨rfl, (by repeat (first | exact Below.refl _ _ | assumption | refine below_alloc ?_ _ | refine below_chain (by assumption) ?_ | refine below_call2 (by assumption) ?_ (by first | omega | (simp; done) | (simp; omega) | (simp [World.setCell]; omega)) | refine below_drewN ?_ _ | refine Below.drew ?_ | refine Below.alloc ?_ (by first | omega | (simp; done) | (simp; omega) | (simp [World.setCell]; omega)) _ | refine Below.setCell ?_ (by first | omega | (simp; done) | (simp; omega) | (simp [World.setCell]; omega)) _))⟩
  by_cases h2 : 8 < al.length
  · have h1i : decide ((30 : Int) < (l.length : Int)) = false := by simp; omega
    have h2i : decide ((8 : Int) < (al.length : Int)) = true := by simp; omega
    obtain ⟨p, v, hi, lo, v', hi', lo', sp, dp⟩ := t
    unfold Tup.val
    go_enter Try.func15, Try.ntmps15
    go_wp2_with (go_at_call 90; refine (awake15 _).mono ?_; rintro e w1 ⟨rfl, hb1⟩)
    go_ret
    exact ⟨rfl, (by repeat (first | exact Below.refl _ _ | assumption | refine below_alloc ?_ _ | refine below_chain (by assumption) ?_ | refine below_call2 (by assumption) ?_ (by first | omega | (simp; done) | (simp; omega) | (simp [World.setCell]; omega)) | refine below_drewN ?_ _ | refine Below.drew ?_ | refine Below.alloc ?_ (by first | omega | (simp; done) | (simp; omega) | (simp [World.setCell]; omega)) _ | refine Below.setCell ?_ (by first | omega | (simp; done) | (simp; omega) | (simp [World.setCell]; omega)) _))⟩
  have h1i : decide ((30 : Int) < (l.length : Int)) = false := by simp; omega
  have h2i : decide ((8 : Int) < (al.length : Int)) = false := by simp; omega
  obtain ⟨m, hm⟩ : ∃ m, n % 16 = m := ⟨_, rfl⟩
  have hm16 : m < 16 := by omega
  have hT : Int.tmod (n : Int) 16 = (m : Int) := by rw [Int.tmod_eq_emod_of_nonneg (by omega)]; omega
  have hE : (n : Int) % 16 = (m : Int) := by omega
  have hmay : mayB (1 + (m : Int)) = true := by simp [mayB]; omega
  have hmay' : mayB ((1 + m : Nat) : Int) = true := by simpa using hmay
  clear hm
  have I1 := fun W hr => instance_any a b t al D d W hr (by omega)
  have O1 := part_of a b t (1 + (m : Int))
  have S1 := fun W hr => spread_any a b l (1 + (m : Int)) A c W hr (by omega)
  have hLl := (spreadL_some a b l (1 + m) hmay').1
  have hLs := spread_sum a b (1 + m) hmay' l
  have hLn := spread_nonneg a b l (1 + (m : Int))
  have hPr := partI_lt a b t (1 + (m : Int)) hmay
  have hcast : ((1 + m : Nat) : Int) = 1 + (m : Int) := by omega
  rw [hcast] at hLl hLs
  obtain ⟨L, hL⟩ : ∃ L, spreadL a b l (1 + (m : Int)) = L := ⟨_, rfl⟩
  obtain ⟨P, hP⟩ : ∃ P, partI a b t (1 + (m : Int)) = P := ⟨_, rfl⟩
  rw [hL] at S1 hLl hLs hLn
  rw [hP] at O1 hPr
  clear hL hP hmay hmay' hcast
  -- the instance among those that are alive
  obtain ⟨q, hq, hqn⟩ := partI_rng a b t al.length
  have hIal : instI a b t al = instV al q := by unfold instI; rw [if_neg (by omega), hq, Int.toNat_natCast]
  have hIset : ∀ i, instI a b t (al.set i false) = instV (al.set i false) q := fun i => by
    unfold instI; rw [if_neg (by simp; omega), List.length_set, hq, Int.toNat_natCast]
  have hok := instV_ok al q (by omega)
  have halive := instV_alive (al := al) (q := q)
  have hset := fun i => instV_set al q i
  have hoks : ∀ i, (instV (al.set i false) q).2 = decide (0 < cntT (al.set i false)) := fun i => instV_ok _ q (by rw [List.length_set]; omega)
  have halives := fun i => instV_alive (al := al.set i false) (q := q)
  obtain ⟨⟨x, o⟩, hV⟩ : ∃ y, instV al q = y := ⟨_, rfl⟩
  rw [hV] at hIal hok halive hset
  rw [hIal] at I1
  dsimp only at hok halive hset I1
  have I2 := fun i A c W hr => instance_any a b t (al.set i false) A c W hr (by simp; omega)
  simp only [hIset, List.length_set] at I2
  obtain ⟨p, v, hi, lo, v', hi', lo', sp, dp⟩ := t
  unfold Tup.val at *
  dsimp only at *
  have hSl : (0 : Int) ≤ L.sum ∧ L.sum ≤ 30 := by omega
  have hc0 : decide (P < 0) = false := by simp; omega
  have hc1 : decide (1 + (m : Int) ≤ P) = false := by simp; omega
  have hc2 : ((L.length : Int) != 1 + (m : Int)) = false := by rw [hLl]; simp
  have hc3 : (L.sum != (l.length : Int)) = false := by rw [hLs]; simp
  have hTk := sum_take L hLn
  have hTs := sum_take_succ L
  have hLb : L.length ≤ 16 := by omega
  replace I1 := Lib.hid I1
  replace I2 := Lib.hid I2
  replace O1 := Lib.hid O1
  replace S1 := Lib.hid S1
  replace hok := Lib.hid hok
  replace halive := Lib.hid halive
  replace hset := Lib.hid hset
  replace hoks := Lib.hid hoks
  replace halives := Lib.hid halives
  replace hLl := Lib.hid hLl
  replace hLs := Lib.hid hLs
  replace hTk := Lib.hid hTk
  replace hTs := Lib.hid hTs
  clear hV hIal hIset hq hqn hLn
  have B1 : Blk ((w.alloc (.cells #[.int .u64 a, .int .u64 b] 119)).alloc (.cells #[.int .i64 p, .bool v, .int .u64 hi, .int .u64 lo, .bool v', .int .u64 hi', .int .u64 lo', .int .i64 sp, .int .i64 dp] 121)) w.heap.size 119 #[.int .u64 a, .int .u64 b] := (Blk.new w _ _).alloc _
  have B2 := Blk.new (w.alloc (.cells #[.int .u64 a, .int .u64 b] 119)) 121 #[.int .i64 p, .bool v, .int .u64 hi, .int .u64 lo, .bool v', .int .u64 hi', .int .u64 lo', .int .i64 sp, .int .i64 dp]
  have hb0 : Below w.heap.size w ((w.alloc (.cells #[.int .u64 a, .int .u64 b] 119)).alloc (.cells #[.int .i64 p, .bool v, .int .u64 hi, .int .u64 lo, .bool v', .int .u64 hi', .int .u64 lo', .int .i64 sp, .int .i64 dp] 121)) := (by repeat (first | exact Below.refl _ _ | assumption | refine below_alloc ?_ _ | refine below_chain (by assumption) ?_ | refine below_call2 (by assumption) ?_ (by first | omega | (simp; done) | (simp; omega) | (simp [World.setCell]; omega)) | refine below_drewN ?_ _ | refine Below.drew ?_ | refine Below.alloc ?_ (by first | omega | (simp; done) | (simp; omega) | (simp [World.setCell]; omega)) _ | refine Below.setCell ?_ (by first | omega | (simp; done) | (simp; omega) | (simp [World.setCell]; omega)) _))
  simp only [World.size_alloc] at B2
  go_enter Try.func15, Try.ntmps15
  go_wp2_with fail
  clear hT hE
  refine (O1.out _).mono ?_
  rintro e w1 ⟨rfl, hb1⟩
  have B3 := B1.call hb1
  have B4 := B2.call hb1
  have hbA := below_chain hb1 hb0
  clear B1 B2 hb1 hb0
  have d0 := B3.cell 0
  have d1 := B3.cell 1
  simp at d0 d1
  go_wp2_with fail
  refine (S1.out _ ((hr.below hbA).more hbA.size)).mono ?_
  rintro e w2 ⟨A2, c2, rfl, hr3, hb2⟩
  have B5 := B3.call hb2
  have B6 := B4.call hb2
  have hbB := below_chain hb2 hbA
  clear B3 B4 hb2 hbA d0 d1 hr
  go_wp2_with fail
  go_loop [15, 17] (fun s i => ∃ k : Nat, k ≤ L.length ∧ i = .int .i64 (k : Nat) ∧ s = .int .i64 (L.take k).sum) (fun _ i => L.length - (intOf i).toNat)
  case atStart => exact ⟨0, by omega, rfl, by simp⟩
  case round =>
    obtain ⟨k, hk, rfl, rfl⟩ := hrel
    by_cases hlt : k < L.length
    · have hlti : (k : Int) < (L.length : Int) := by omega
      obtain ⟨ad, rfl, hbl, hc⟩ := hr3.int_at hlt
      have t1 := hTk.out k
      have t2 := hTk.out (k + 1)
      have t3 := hTs.out k hlt
      obtain ⟨s, hs⟩ : ∃ s, (L.take k).sum = s := ⟨_, rfl⟩
      obtain ⟨y, hy⟩ : ∃ y, L.getD k 0 = y := ⟨_, rfl⟩
      rw [hs] at t1 t3 ⊢
      rw [hy] at t3 hc
      have b1 : 0 ≤ s + y := by omega
      have b2 : s + y ≤ 30 := by omega
      replace t3 := Lib.hid t3
      replace hs := Lib.hid hs
      replace hy := Lib.hid hy
      go_wp2_with fail
      go_round
      case rel => exact ⟨k + 1, by omega, by go_num, by rw [t3.out]⟩
      case measure => simp [intOf]; omega
    · obtain rfl : k = L.length := by omega
      rw [List.take_length]
      have hlti : ¬ (L.length : Int) < (L.length : Int) := by omega
      go_wp2_with fail
      clear hc0 hc1 hc2 hc3 hTk hTs hr3 hLs hLl hSl hPr hlti hlt hk
      go_loop [18, 19] (fun s i => ∃ k : Nat, k ≤ al.length ∧ i = .int .i64 (k : Nat) ∧ s = .int .i64 (cntT (al.take k) : Nat)) (fun _ i => al.length - (intOf i).toNat)
      case atStart => exact ⟨0, by omega, rfl, by simp [cntT]⟩
      case round =>
        obtain ⟨k, hk, rfl, rfl⟩ := hrel
        by_cases hlt : k < al.length
        · have hlti : (k : Int) < (al.length : Int) := by omega
          obtain ⟨ad, rfl, hbl, hc⟩ := ((hr2.below hbB).more hbB.size).bool_at hlt
          have t3 := cntT_succ al k hlt
          have t4 := cntT_le (al.take k)
          have t5 : (al.take k).length ≤ k := List.length_take_le _ _
          obtain ⟨s, hs⟩ : ∃ s, cntT (al.take k) = s := ⟨_, rfl⟩
          obtain ⟨y, hy⟩ : ∃ y, al.getD k false = y := ⟨_, rfl⟩
          rw [hs] at t3 t4 ⊢
          rw [hy] at t3 hc
          have b1 : s ≤ 8 := by omega
          replace t3 := Lib.hid t3
          replace hs := Lib.hid hs
          replace hy := Lib.hid hy
          clear t4 t5
          cases y
          · go_wp2_with fail
            go_round
            case rel => exact ⟨k + 1, by omega, by go_num, by rw [t3.out]; rfl⟩
            case measure => simp [intOf]; omega
          · go_wp2_with fail
            go_round
            case rel => exact ⟨k + 1, by omega, by go_num, by rw [t3.out]; go_num⟩
            case measure => simp [intOf]; omega
        · obtain rfl : k = al.length := by omega
          rw [List.take_length]
          have hlti : ¬ (al.length : Int) < (al.length : Int) := by omega
          have d0 := B5.cell 0
          have d1 := B5.cell 1
          have c0 := B6.cell 0
          have c1 := B6.cell 1
          have c2 := B6.cell 2
          have c3 := B6.cell 3
          have c4 := B6.cell 4
          have c5 := B6.cell 5
          have c6 := B6.cell 6
          have c7 := B6.cell 7
          have c8 := B6.cell 8
          simp at d0 d1 c0 c1 c2 c3 c4 c5 c6 c7 c8
          go_wp2_with fail
          refine (I1.out _ ((hr2.below hbB).more hbB.size)).mono ?_
          rintro e w3 ⟨rfl, hb3⟩
          clear d0 d1 c0 c1 c2 c3 c4 c5 c6 c7 c8
          have B7 := B5.call hb3
          have B8 := B6.call hb3
          have hbC := below_chain hb3 hbB
          clear B5 B6 hb3 hlti hlt hk hbB
          have hr4 : Reads w3 w3.heap.size 1 D al.length (al.map .bool) := (hr2.below hbC).more hbC.size
          clear hr2
          have hz := hbC.size
          have hx0 : decide ((x : Int) < 0) = false := by simp
          have hcs := Lib.hid fun i => cntT_set al i
          generalize cntT al = s at *
          cases o
          · have z := hok.out
            have z1 : ¬ 0 < s := by simpa using z
            obtain rfl : s = 0 := by omega
            clear z z1
            go_wp2_with (go_at_call 90; with_reducible refine (awake15 _).mono ?_; rintro e w8 ⟨rfl, hb8⟩)
            go_ret
            exact ⟨rfl, below_chain hb8 hbC⟩
          · have z := hok.out
            have z1 : 0 < s := by simpa using z
            have hs0 : ¬ s = 0 := by omega
            obtain ⟨hxl, hxa⟩ := halive.out (by trivial)
            obtain ⟨ad, rfl, hbl, hc⟩ := hr4.bool_at hxl
            rw [hxa] at hc
            have hxi : decide ((al.length : Int) ≤ (x : Int)) = false := by simp; omega
            have hxi2 : (x : Int) < (al.length : Int) := by omega
            obtain ⟨i, hi⟩ : ∃ i, gone % al.length = i := ⟨_, rfl⟩
            have hil : i < al.length := by rw [← hi]; exact Nat.mod_lt _ (by omega)
            have hili : (i : Int) < (al.length : Int) := by omega
            have hE2 : (gone : Int) % (al.length : Int) = (i : Int) := by rw [← hi]; simp
            have hT2 : Int.tmod (gone : Int) (al.length : Int) = (i : Int) := by rw [Int.tmod_eq_emod_of_nonneg (by omega), hE2]
            have hl0 : ((al.length : Int) == 0) = false := by rw [beq_eq_false_iff_ne]; omega
            have hl0' : al.length ≠ 0 := by omega
            clear hi z
            obtain ⟨i0, hi0, hz0, hz1, hz2⟩ := info_parts info_bool
            go_wp2_with (at_builtin; go_must (refine wpList_append_sl _ rfl (.tmp 124) (.tmp 125) 39 rfl w3.heap.size 4 i0 _ 1 1 Try.underlying39 hi0 hz0 hz1 hz2 rfl (by decide) (.slice none 0 0) 0 [] rfl (World.ownsRow_nil _ _ _ _) w3.heap.size (some ad) al.length d (al.map .bool) rfl hr4 (bools_one al) (by unfold maxLen; omega) (by omega) (by simp) ?_; intro A4 cc4 w4 hown1 hg1 hat1; simp only [Nat.zero_add, List.nil_append] at hown1 hat1; obtain ⟨g, cap, f, hv, hgb, hnc, hcap, hrow, hf⟩ := row_of_own hown1 (by omega); simp only [Value.slice.injEq] at hv; obtain ⟨rfl, _, rfl⟩ := hv; have r1 := hrow.cell (i := i) (by omega); have q1 := hrow.frozen i; have B9 := B7.grown hg1 (by simp [Value.ownBlock]); have B10 := B8.grown hg1 (by simp [Value.ownBlock]); have hz7 := B7.lt; have hz8 := B8.lt; have hne1 : w.heap.size ≠ g := (by omega); have hne2 : w.heap.size + 1 ≠ g := (by omega); have d0 := B9.cell 0; have d1 := B9.cell 1; have c0 := B10.cell 0; have c1 := B10.cell 1; have c2 := B10.cell 2; have c3 := B10.cell 3; have c4 := B10.cell 4; have c5 := B10.cell 5; have c6 := B10.cell 6; have c7 := B10.cell 7; have c8 := B10.cell 8; simp at d0 d1 c0 c1 c2 c3 c4 c5 c6 c7 c8; clear hat1 B7 B8))
            have hrow2 := hrow.set i (.bool false)
            have hown2 := own_of_row (xs := (al.set i false).map Value.bool) (n := al.length) hrow2 hgb hnc hcap (by simp) (fun j u hu => by
              by_cases e : j = i
              · subst e
                rw [List.getElem?_map, List.getElem?_set_self hil] at hu
                rw [if_pos rfl]
                simpa using hu
              · rw [if_neg e]
                rw [List.getElem?_map, List.getElem?_set_ne (fun h => e h.symm), ← List.getElem?_map] at hu
                exact hf j u hu)
            have hr5 := Reads.of_own hown2
            have hb4 : Below w.heap.size w w4 := hbC.grown hg1 (by omega) (by simp [Value.ownBlock])
            have hb5 := hb4.setCell (p := ⟨g, i, none⟩) (show w.heap.size ≤ g by omega) (.bool false)
            generalize w4.setCell ⟨g, i, none⟩ (.bool false) = w5 at *
            have J := I2.out i _ cc4 _ hr5
            clear hrow2 hown2 hrow hf r1 q1 d0 d1 c0 c1 c2 c3 c5 c6 c7 c8 B9 B10 hb4 hg1 hown1 hE2 hT2 hc hr4 hbC hx0 hxi
            by_cases hix : i = x
            · subst hix
              obtain ⟨⟨y, o2⟩, hY⟩ : ∃ r, instV (al.set i false) q = r := ⟨_, rfl⟩
              have z2 := hoks.out i
              have z3 := hcs.out i hil hxa
              have z4 := halives.out i
              rw [hY] at z2 z4 J
              dsimp only at z2 z4 J
              clear hY I2 hoks hcs halives hset halive
              cases o2
              · have z5 : ¬ 0 < cntT (al.set i false) := by simpa using z2
                have z6 : ¬ 1 < s := by omega
                have d2 : decide ((1 : Int) < (s : Int)) = false := by simp; omega
                clear z2 z3 z4 z5
                refine J.mono ?_
                rintro e w6 ⟨rfl, hb6⟩
                go_wp2_with (go_at_call 90; with_reducible refine (awake15 _).mono ?_; rintro e w8 ⟨rfl, hb8⟩)
                go_ret
                exact ⟨rfl, below_chain hb8 (below_chain hb6 hb5)⟩
              · have z5 : 0 < cntT (al.set i false) := by simpa using z2
                have z6 : 1 < s := by omega
                have d2 : decide ((1 : Int) < (s : Int)) = true := by simp; omega
                obtain ⟨hyl, hya⟩ := z4 (by trivial)
                rw [List.length_set] at hyl
                have hyi : (y : Int) < (al.length : Int) := by omega
                have hyi2 : decide ((y : Int) < (al.length : Int)) = true := by simp; omega
                clear z2 z3 z4 z5
                refine J.mono ?_
                rintro e w6 ⟨rfl, hb6⟩
                have hr6 := (hr5.below hb6).more hb6.size
                rw [show al.length = (al.set i false).length by simp] at hr6
                obtain ⟨ad, had, hbl2, hcy⟩ := hr6.bool_at (i := y) (by simpa using hyl)
                cases had
                rw [hya, show (⟨g, 0, none⟩ : Addr).add y = ⟨g, y, none⟩ by unfold Addr.add; split <;> simp_all] at hcy
                clear hr5 hr6 hya hxa
                go_wp2_with (go_at_call 90; with_reducible refine (awake15 _).mono ?_; rintro e w8 ⟨rfl, hb8⟩)
                go_ret
                exact ⟨rfl, below_chain hb8 (below_chain hb6 hb5)⟩
            · have hs2 := hset.out i (by trivial) hix
              have hixb : ((i : Int) != (x : Int)) = true := by rw [bne_iff_ne]; omega
              rw [hs2] at J
              dsimp only at J
              clear hs2 I2 hoks hcs halives hset halive
              refine J.mono ?_
              rintro e w6 ⟨rfl, hb6⟩
              go_wp2_with (go_at_call 90; with_reducible refine (awake15 _).mono ?_; rintro e w8 ⟨rfl, hb8⟩)
              go_ret
              exact ⟨rfl, below_chain hb8 (below_chain hb6 hb5)⟩
end Go.Proofs.Ytdkcjfcjckpjcaa
