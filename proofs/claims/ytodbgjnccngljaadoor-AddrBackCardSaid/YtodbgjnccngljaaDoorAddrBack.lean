/- For all arguments, cloakroomlaw04.AddrBack returns true and leaves its arguments as they were; the card, tied. -/
import Derived.Test.YtodbgjnccngljaaDoorAdV
import Derived.Test.YtodbgjnccngljaaDoorCardW
import Derived.Test.YtodbgjnccngljaaDoorRows
import Derived.Test.YtodbgjnccngljaaDoorFacts
import Derived.Test.YtodbgjnccngljaaDoorCards
import Derived.Test.YtodbgjnccngljaaDoorTie
import Derived.Test.YtodbgjnccngljaaDoorOpenZ
import Derived.JoinedCond
import Derived.SevenTiedAt
import Derived.OpenShut
import Derived.ChangeMaps5
namespace Go.Proofs.YtodbgjnccngljaaDoor
open Go Go.RowKit Go.Deep Go.ChangeShapes Go.WideShapes Go.ChangeMaps

set_option maxRecDepth 100000 in
theorem addrBack_contract (H : Type) (enc : TypeId × Value → H) (W : World) (base : Nat) (args : Array Value) (ds gs : List (DataW H)) (before : List MemPlace)
    (hval : ∀ (j : Nat) t v, Tryd.f4.params[j]? = some t → args[j]? = some v → Value.okWide Tryd.prog W .any base t v)
    (hW : DataW.Whole enc Tryd.prog Tryd.f4.params.toList Rows.addrBackSpec.vars false W args.toList ds gs before) (hStd : Std W) :
    Calls Tryd.prog 4 args W fun e W' => ∃ v, e = .returned v ∧ Rows.addrBackSpec.post enc Tryd.prog Tryd.f4 false true false false W args v W' := by
  refine law_post laidOut (by kernel_rfl) rfl rfl Tryd.underlying4 ?_ hW ?_
  · intro ds hds
    match ds, hds with
    | [d0, d1, d2], _ => exact ⟨rfl, rfl, rfl⟩
  · obtain ⟨p, q, hA, hV, rfl, hfz, hnd⟩ := hW
    replace hA : DataW.TrodAll enc Tryd.prog W 0 (fun _ => true) true Tryd.f4.params.toList args.toList ds p := hA
    replace hval : ∀ (j : Nat) t v, Tryd.f4.params[j]? = some t → args[j]? = some v → Value.okWide Tryd.prog W .any base t v := hval
    rw [Tryd.params4] at hA hval
    obtain ⟨v0, vs0, _, ds0, p0, q0, hargs, rfl, rfl, h0, r0⟩ := trodAll_cons hA
    obtain ⟨v1, vs1, _, ds1, p1, q1, rfl, rfl, rfl, h1, r1⟩ := trodAll_cons r0
    obtain ⟨v2, vs2, _, ds2, p2, q2, rfl, rfl, rfl, h2, r2⟩ := trodAll_cons r1
    obtain ⟨rfl, rfl, rfl⟩ := trodAll_nil r2
    obtain rfl : args = #[v0, v1, v2] := by cases args; simp_all
    obtain ⟨cs0, rfl, _⟩ := okWide_struct Tryd.underlying24 (hval 0 24 v0 rfl rfl)
    obtain ⟨⟨x0_0, x0_1, x0_2, ⟨⟩⟩, hx0⟩ := open_ft (.pair .bool (.pair (.int .u64) (.pair (.int .u64) .unit))) (by kernel_rfl) h0
    obtain ⟨_, _, hcs0, rfl, _, _, rfl, ⟨rfl, wx0_1⟩, _, _, rfl, ⟨rfl, wx0_2⟩, rfl⟩ := hx0
    obtain rfl : cs0 = #[.bool x0_0, .int .u64 x0_1, .int .u64 x0_2] := by cases cs0; simpa [Value.cells] using hcs0
    obtain ⟨cs1, rfl, _⟩ := okWide_struct Tryd.underlying24 (hval 1 24 v1 rfl rfl)
    obtain ⟨⟨x1_0, x1_1, x1_2, ⟨⟩⟩, hx1⟩ := open_ft (.pair .bool (.pair (.int .u64) (.pair (.int .u64) .unit))) (by kernel_rfl) h1
    obtain ⟨_, _, hcs1, rfl, _, _, rfl, ⟨rfl, wx1_1⟩, _, _, rfl, ⟨rfl, wx1_2⟩, rfl⟩ := hx1
    obtain rfl : cs1 = #[.bool x1_0, .int .u64 x1_1, .int .u64 x1_2] := by cases cs1; simpa [Value.cells] using hcs1
    obtain ⟨x2, rfl, rfl, _, hs2⟩ := open_string Tryd.underlying9 (hval 2 9 v2 rfl rfl) h2
    obtain ⟨m1, rfl, y1⟩ := wf_u64 wx0_1
    obtain ⟨m2, rfl, y2⟩ := wf_u64 wx0_2
    obtain ⟨m3, rfl, y3⟩ := wf_u64 wx1_1
    obtain ⟨m4, rfl, y4⟩ := wf_u64 wx1_2
    have hlx : x2.data.toList.length ≤ 9223372036854775807 := by
      have h : x2.data.toList.length = x2.size := by rfl
      unfold maxLen at hs2
      omega
    exact addrBack_calls x0_0 m1 m2 x1_0 m3 m4 x2.data.toList W hStd y1 y2 hlx

theorem addrBack_reads (os : Os) {H : Type} (enc : TypeId × Value → H) : ∃ x, DataW.whole enc Tryd.prog ((World.laidAll Tryd.prog os laidL).forCall (fun _ _ => 0) ⟨#[], #[.agg #[.bool false, .int .u64 0, .int .u64 0], .agg #[.bool false, .int .u64 0, .int .u64 0], .string ByteArray.empty], []⟩).memory Tryd.f4.params.toList (OpenSpec.ofChange Rows.addrBackSpec).vars false (#[.agg #[.bool false, .int .u64 0, .int .u64 0], .agg #[.bool false, .int .u64 0, .int .u64 0], .string ByteArray.empty] : Array Value).toList 8 = some x :=
  Option.isSome_iff_exists.1 (by kernel_rfl)
set_option maxRecDepth 100000 in
theorem addrBack_lifted (os : Os) (started : os.Started) (H : Type) (enc : TypeId × Value → H) (F : Stop.Interp) :
    ReturnsInHanded {} Tryd.checked os 4 .any ((OpenSpec.ofChange Rows.addrBackSpec).preRow enc Tryd.prog Tryd.f4 Rows.addrBackRow.domain false Rows.addrBackRow.laid)
      (((OpenSpec.ofChange Rows.addrBackSpec).at F).post enc Tryd.prog Tryd.f4 false true false false) := by
  obtain ⟨x, hx⟩ := addrBack_reads os enc
  refine returnsInHanded_of_row (C := Tryd.checked) (s := OpenSpec.ofChange Rows.addrBackSpec) own started (by kernel_rfl) Tryd.func4
    (witness_laid (enc := enc) (os := os) #[.agg #[.bool false, .int .u64 0, .int .u64 0], .agg #[.bool false, .int .u64 0, .int .u64 0], .string ByteArray.empty] (World.shaped_of_ZipB (by kernel_rfl) (by kernel_rfl)) (by kernel_rfl) hx (by rfl) (fun k hk => by cases hk) (by kernel_rfl)) ?_
  intro W base args ds gs before hval hW _ _ _ hL hsh _
  exact addrBack_contract H enc W base args ds gs before hval hW (std_of_laid hL hsh)
set_option maxRecDepth 100000 in
set_option maxHeartbeats 4000000 in
theorem addrBack_closed : joinedFacts Tryd.prog 4 Tryd.f4 (OpenSpec.ofChange Rows.addrBackSpec).bare Rows.addrBackRow = true := by
  unfold joinedFacts
  repeat' (with_reducible apply and_t)
  all_goals first | with_reducible exact may_enter | ((with_reducible show (_ == Program.liftsFinal _) = true); exact lifts_final) | (as_aux_lemma => kernel_rfl)
theorem addrBack_said : Rows.AddrBackSaid :=
  OpenClaim.holds_of_cond 4 Tryd.f4 rfl rfl rfl rfl rfl rfl rfl ⟨rfl, rfl, rfl, rfl, rfl⟩ rfl rfl rfl rfl rfl (by as_aux_lemma => kernel_rfl) Tryd.func4 addrBack_closed
    (of_decide_eq_true (by kernel_rfl)) (by unfold Func.isWrapper; rw [if_neg (of_decide_eq_false (by kernel_rfl))]; exact ⟨rfl, rfl⟩)
    (fun os started H enc _ Fi => by rw [OpenClaim.pre_eq_preRow]; exact addrBack_lifted os started H enc Fi)
theorem addrBack_looks (f : FuncId) (fn : Func) (hf : Tryd.pinned.checked.prog.funcNamed Rows.addrBackRow.func = some f) (hfn : Tryd.pinned.checked.prog.funcs[f]? = some fn) :
    true = Tryd.pinned.checked.prog.looks [] ∧ ∀ (j : Nat) t, fn.params[j]? = some t → Tryd.pinned.checked.prog.wantsStandIn t = false := by
  obtain rfl : f = 4 := Option.some.inj ((show Tryd.prog.funcNamed Rows.addrBackRow.func = some 4 by kernel_rfl).symm.trans hf) |>.symm
  obtain rfl : fn = Tryd.f4 := (Option.some.inj (Tryd.func4.symm.trans hfn)).symm
  refine ⟨by kernel_rfl, fun j t ht => ?_⟩
  have hm : t ∈ Tryd.f4.params.toList := by
    rw [Array.mem_toList_iff]
    exact Array.mem_of_getElem? ht
  have hall : (Tryd.f4.params.toList.all fun u => !Tryd.prog.wantsStandIn u) = true := by kernel_rfl
  exact (show Tryd.prog.wantsStandIn t = false by simpa using List.all_eq_true.1 hall t hm)
theorem addrBack_card_holds : Rows.AddrBackCardSaid :=
  Claim7.holds_tied_plain_at .later [] [.data, .data, .data, .data, .pinned] true (true, "5a04f57308b2fbda8bedd23f38c6afe5bf45f79bdc8a326a6ea68402d7a48065") true
    addrBack_said (fun _ h => by cases h) (by kernel_rfl) (fun _ h => by cases h) addrBack_row_tie rfl ⟨rfl, rfl⟩ (by kernel_rfl) rfl addrBack_looks (by kernel_rfl)
end Go.Proofs.YtodbgjnccngljaaDoor
