/- 'RationalField' returns true for every input, and reads its arguments behind the call as before: the row, and the card that ties the listed variables to the program's text. No condition. -/
import Derived.Test.YtjnpenljgfdaiaaGreatDoorCards
import Derived.Test.YtjnpenljgfdaiaaGreatDoorTie
import Derived.Test.YtjnpenljgfdaiaaGreatDoorEnv
import Derived.Test.YtjnpenljgfdaiaaGreatDoorJF
import Derived.Test.YtjnpenljgfdaiaaGreatDoorLawKit
import Derived.Test.YtjnpenljgfdaiaaGreatDoorRead
import Derived.Test.YtjnpenljgfdaiaaGreatDoorL19
import Derived.Test.YtjnpenljgfdaiaaGreatDoorR4
namespace Go.Proofs.YtjnpenljgfdaiaaGreatDoor.fnRationalField
open Go.ChangeShapes Go.WideShapes Go.ChangeAt Go.RowKit Go.Proofs.YtjnpenljgfdaiaaGreatDoor
open Go.ChangeMaps (open_string)

theorem own : ownKnob Tryz.prog.godebug = none := by kernel_rfl
theorem laidOut : laidOutB Tryz.prog = true := jf_laidOut
theorem readable : (Tryz.f19.params.toList.all fun t => Tryz.prog.readableRec t && decide (t < Tryz.prog.types.size)) = true := by kernel_rfl

set_option maxRecDepth 100000 in
theorem contract (H : Type) (enc : TypeId × Value → H) (W : World) (base : Nat) (args : Array Value) (ds gs : List (DataW H)) (before : List MemPlace)
    (hval : ∀ (j : Nat) t v, Tryz.f19.params[j]? = some t → args[j]? = some v → Value.okWide Tryz.prog W .any base t v)
    (hW : DataW.Whole enc Tryz.prog Tryz.f19.params.toList Rows.rationalFieldSpec.vars false W args.toList ds gs before) (hL : laidMetH Tryz.prog Rows.rationalFieldRow.laid W) (hSh : W.ShapedOpen Tryz.prog) :
    Calls Tryz.prog 19 args W fun e W' => ∃ v, e = .returned v ∧ Rows.rationalFieldSpec.post enc Tryz.prog Tryz.f19 false true false false W args v W' := by
  have hE : EnvW W := env_of_laid hL
  have hR : EnvR W := ⟨hE, cell_of_shapedOpen_int (t := 3) (k := .i64) (zero := #[.int .i64 0]) (g := 2) hSh (of_decide_eq_true (by kernel_rfl)) (by kernel_rfl) rfl (by kernel_rfl) (by kernel_rfl) Tryz.underlying3⟩
  have hW' := hW
  have hlt : ∀ p ∈ before, p.block < W.heap.size := fun p hp => hW.lt p hp
  obtain ⟨p, q, hA0, hV, rfl, hfz, hnd⟩ := hW
  have hA : DataW.TrodAll enc Tryz.prog W 0 (fun _ => true) true Tryz.f19.params.toList args.toList ds p := hA0
  rw [Tryz.params19] at hA hval
  obtain ⟨v0, vs0, d0, ds0, p0, q0, hargs, rfl, rfl, h0, r0⟩ := trodAll_cons hA
  obtain ⟨v1, vs1, d1, ds1, p1, q1, rfl, rfl, rfl, h1, r1⟩ := trodAll_cons r0
  obtain ⟨v2, vs2, d2, ds2, p2, q2, rfl, rfl, rfl, h2, r2⟩ := trodAll_cons r1
  obtain ⟨v3, vs3, d3, ds3, p3, q3, rfl, rfl, rfl, h3, r3⟩ := trodAll_cons r2
  obtain ⟨rfl, rfl, rfl⟩ := trodAll_nil r3
  obtain rfl : args = #[v0, v1, v2, v3] := by cases args; simp_all
  obtain ⟨rfl, rfl⟩ := trodVars_none hV
  clear hA0
  simp only [List.append_nil] at hW'
  obtain ⟨a0, e0, c0, d0, rfl, ma0, me0, mc0, md0⟩ := arr4 Tryz.underlying22 Tryz.underlying3 (by kernel_rfl) (by kernel_rfl) (hval 0 22 v0 rfl rfl) h0
  obtain ⟨a1, e1, c1, d1, rfl, ma1, me1, mc1, md1⟩ := arr4 Tryz.underlying22 Tryz.underlying3 (by kernel_rfl) (by kernel_rfl) (hval 1 22 v1 rfl rfl) h1
  obtain ⟨a2, e2, rfl, ma2, me2⟩ := arr2 Tryz.underlying23 Tryz.underlying3 (by kernel_rfl) (by kernel_rfl) (hval 2 23 v2 rfl rfl) h2
  obtain ⟨b3, rfl, rfl, rfl⟩ := open_bool Tryz.underlying4 (hval 3 4 v3 rfl rfl) h3
  refine (law_field4 a0 e0 c0 d0 a1 e1 c1 d1 a2 e2 b3 W hR ma0 me0 mc0 md0 ma1 me1 mc1 md1 ma2 me2).mono fun e W' ⟨he, hb⟩ => ?_
  subst he
  exact ⟨_, rfl, law_post laidOut readable rfl (by kernel_rfl) Tryz.underlying4 rfl rfl rfl hW' hb⟩

theorem reads (os : Os) {H : Type} (enc : TypeId × Value → H) : ∃ places, DataW.whole enc Tryz.prog ((laidWorld os).forCall (fun _ _ => 0) ⟨#[], #[.agg #[.int .i64 0, .int .i64 0, .int .i64 0, .int .i64 0], .agg #[.int .i64 0, .int .i64 0, .int .i64 0, .int .i64 0], .agg #[.int .i64 0, .int .i64 0], .bool false], []⟩).memory Tryz.f19.params.toList Rows.rationalFieldSpec.vars false (#[.agg #[.int .i64 0, .int .i64 0, .int .i64 0, .int .i64 0], .agg #[.int .i64 0, .int .i64 0, .int .i64 0, .int .i64 0], .agg #[.int .i64 0, .int .i64 0], .bool false] : Array Value).toList 8 = some ([.agg [.lit (.int .i64 0), .lit (.int .i64 0), .lit (.int .i64 0), .lit (.int .i64 0)], .agg [.lit (.int .i64 0), .lit (.int .i64 0), .lit (.int .i64 0), .lit (.int .i64 0)], .agg [.lit (.int .i64 0), .lit (.int .i64 0)], .lit (.bool false)], [], places) :=
  ⟨[], by kernel_rfl⟩

set_option maxRecDepth 100000 in
theorem lifted (os : Os) (started : os.Started) (H : Type) (enc : TypeId × Value → H) (F : Stop.Interp) :
    ReturnsInHanded {} Tryz.checked os 19 .any ((OpenSpec.ofChange Rows.rationalFieldSpec).preRow enc Tryz.prog Tryz.f19 Rows.rationalFieldRow.domain false Rows.rationalFieldRow.laid) (((OpenSpec.ofChange Rows.rationalFieldSpec).at F).post enc Tryz.prog Tryz.f19 false true false false) := by
  obtain ⟨places, hx⟩ := reads os enc
  refine returnsInHanded_of_row (C := Tryz.checked) (s := OpenSpec.ofChange Rows.rationalFieldSpec) own started (by kernel_rfl) Tryz.func19
    (witness_row_at (enc := enc) (C := Tryz.checked) false (laidWorld os) #[.agg #[.int .i64 0, .int .i64 0, .int .i64 0, .int .i64 0], .agg #[.int .i64 0, .int .i64 0, .int .i64 0, .int .i64 0], .agg #[.int .i64 0, .int .i64 0], .bool false] rfl (by kernel_rfl) (by kernel_rfl) (by kernel_rfl)
      (OpenSpec.preRow_of_cond 8 hx (by kernel_rfl) (fun k hk => by cases hk) (by kernel_rfl) (laidWorld_met os _))) ?_
  intro W base args ds gs before hval hW _ _ _ hL hSh _
  exact contract H enc W base args ds gs before hval hW hL hSh

theorem jf9 : (Rows.rationalFieldRow.inPlace == Tryz.prog.inPlace 19) = true := by kernel_rfl
theorem jf10 : (Rows.rationalFieldRow.unfollowed == Tryz.prog.unfollowed 19) = true := by kernel_rfl
theorem jf11 : (Rows.rationalFieldRow.recurses == Tryz.prog.recurses 19) = true := by kernel_rfl
theorem jf12 : (Rows.rationalFieldRow.named == Tryz.prog.varsNamed 19) = true := by kernel_rfl
theorem closed : joinedFacts Tryz.pinned.checked.prog 19 Tryz.f19 (OpenSpec.ofChange Rows.rationalFieldSpec).bare Rows.rationalFieldRow = true :=
  joined_of (by kernel_rfl) (jf_laidOut) (jf_mapsRowed) (by kernel_rfl) (by kernel_rfl) (by kernel_rfl) (jf_stops) (by kernel_rfl) (jf_knobs) (jf9) (jf10) (jf11) (jf12) (by kernel_rfl) (by kernel_rfl) (by kernel_rfl) (by kernel_rfl) (by kernel_rfl) (by kernel_rfl) (by kernel_rfl) (by kernel_rfl) (by kernel_rfl) (jf_plainKeys) (by kernel_rfl) (jf_heard) (jf_enter) (jf_lifted) (by kernel_rfl) (by kernel_rfl) (by kernel_rfl) (by kernel_rfl) (by kernel_rfl)
theorem said : Rows.RationalFieldSaid :=
  OpenClaim.holds_of_cond 19 Tryz.f19 rfl rfl rfl rfl rfl rfl rfl ⟨rfl, rfl, rfl, rfl, rfl⟩ rfl rfl rfl rfl rfl (by kernel_rfl) Tryz.func19 closed
    (of_decide_eq_true (by kernel_rfl)) (by unfold Func.isWrapper; first | (rw [if_pos (by decide +kernel)]; kernel_rfl) | (rw [if_neg (by decide +kernel)]; exact ⟨rfl, rfl⟩))
    (fun os started H enc _ F => by rw [OpenClaim.pre_eq_preRow]; exact lifted os started H enc F)

theorem plain (f : FuncId) (fn : Func) (hf : Tryz.pinned.checked.prog.funcNamed "nadir/nadirlaw04.RationalField" = some f) (hfn : Tryz.pinned.checked.prog.funcs[f]? = some fn) :
    true = Tryz.pinned.checked.prog.looks [] ∧ ∀ (j : Nat) t, fn.params[j]? = some t → Tryz.pinned.checked.prog.wantsStandIn t = false := by
  obtain rfl : f = 19 := Option.some.inj ((show Tryz.prog.funcNamed "nadir/nadirlaw04.RationalField" = some 19 by kernel_rfl).symm.trans hf) |>.symm
  obtain rfl : fn = Tryz.f19 := (Option.some.inj (Tryz.func19.symm.trans hfn)).symm
  refine ⟨jf_looks, fun j t ht => ?_⟩
  rw [Tryz.params19] at ht
  have hm : t ∈ ([22, 22, 23, 4] : List Nat) := by
    have := Array.mem_of_getElem? ht
    simpa using this
  revert t
  have hall : ∀ t ∈ ([22, 22, 23, 4] : List Nat), Tryz.prog.wantsStandIn t = false := by
    intro t ht
    have h := List.all_eq_true.1 (show ([22, 22, 23, 4] : List Nat).all (fun t => !(Tryz.prog.wantsStandIn t)) = true by kernel_rfl) t ht
    simpa using h
  intro t _ hm
  exact hall t hm

theorem cw : Rows.rationalFieldRow.wfByText (OpenSpec.ofChange Rows.rationalFieldSpec) = true := by kernel_rfl
theorem cg : false = Rows.rationalFieldRow.goesBy Tryz.pinned.checked.prog := by kernel_rfl
theorem card : Rows.RationalFieldCardSaid :=
  Claim7.holds_tied_plain_at .later [] _ _ _ _ said (fun _ h => by cases h) cw (fun _ h => by cases h) rationalField_row_tie rfl ⟨rfl, rfl⟩ jf_main rfl plain cg
end Go.Proofs.YtjnpenljgfdaiaaGreatDoor.fnRationalField
