/- 'RationalMatchesReference' returns true for every input, and reads its arguments behind the call as before: the row, and the card that ties the listed variables to the program's text. No condition. -/
import Derived.Test.YtjnpenljgfdaiaaGreatDoorCards
import Derived.Test.YtjnpenljgfdaiaaGreatDoorTie
import Derived.Test.YtjnpenljgfdaiaaGreatDoorEnv
import Derived.Test.YtjnpenljgfdaiaaGreatDoorJF
import Derived.Test.YtjnpenljgfdaiaaGreatDoorLawKit
import Derived.Test.YtjnpenljgfdaiaaGreatDoorRead
import Derived.Test.YtjnpenljgfdaiaaGreatDoorL17
namespace Go.Proofs.YtjnpenljgfdaiaaGreatDoor.fnRationalMatchesReference
open Go.ChangeShapes Go.WideShapes Go.ChangeAt Go.RowKit Go.Proofs.YtjnpenljgfdaiaaGreatDoor
open Go.ChangeMaps (open_string)

theorem own : ownKnob Tryz.prog.godebug = none := by kernel_rfl
theorem laidOut : laidOutB Tryz.prog = true := jf_laidOut
theorem readable : (Tryz.f17.params.toList.all fun t => Tryz.prog.readableRec t && decide (t < Tryz.prog.types.size)) = true := by kernel_rfl

set_option maxRecDepth 100000 in
theorem contract (H : Type) (enc : TypeId × Value → H) (W : World) (base : Nat) (args : Array Value) (ds gs : List (DataW H)) (before : List MemPlace)
    (hval : ∀ (j : Nat) t v, Tryz.f17.params[j]? = some t → args[j]? = some v → Value.okWide Tryz.prog W .any base t v)
    (hW : DataW.Whole enc Tryz.prog Tryz.f17.params.toList Rows.rationalMatchesReferenceSpec.vars false W args.toList ds gs before) (hL : laidMetH Tryz.prog Rows.rationalMatchesReferenceRow.laid W) (hSh : W.ShapedOpen Tryz.prog) :
    Calls Tryz.prog 17 args W fun e W' => ∃ v, e = .returned v ∧ Rows.rationalMatchesReferenceSpec.post enc Tryz.prog Tryz.f17 false true false false W args v W' := by
  have hE : EnvW W := env_of_laid hL
  have hR : EnvR W := ⟨hE, cell_of_shapedOpen_int (t := 3) (k := .i64) (zero := #[.int .i64 0]) (g := 2) hSh (of_decide_eq_true (by kernel_rfl)) (by kernel_rfl) rfl (by kernel_rfl) (by kernel_rfl) Tryz.underlying3⟩
  have hW' := hW
  have hlt : ∀ p ∈ before, p.block < W.heap.size := fun p hp => hW.lt p hp
  obtain ⟨p, q, hA0, hV, rfl, hfz, hnd⟩ := hW
  have hA : DataW.TrodAll enc Tryz.prog W 0 (fun _ => true) true Tryz.f17.params.toList args.toList ds p := hA0
  rw [Tryz.params17] at hA hval
  obtain ⟨v0, vs0, d0, ds0, p0, q0, hargs, rfl, rfl, h0, r0⟩ := trodAll_cons hA
  obtain ⟨v1, vs1, d1, ds1, p1, q1, rfl, rfl, rfl, h1, r1⟩ := trodAll_cons r0
  obtain ⟨v2, vs2, d2, ds2, p2, q2, rfl, rfl, rfl, h2, r2⟩ := trodAll_cons r1
  obtain ⟨v3, vs3, d3, ds3, p3, q3, rfl, rfl, rfl, h3, r3⟩ := trodAll_cons r2
  obtain ⟨v4, vs4, d4, ds4, p4, q4, rfl, rfl, rfl, h4, r4⟩ := trodAll_cons r3
  obtain ⟨v5, vs5, d5, ds5, p5, q5, rfl, rfl, rfl, h5, r5⟩ := trodAll_cons r4
  obtain ⟨v6, vs6, d6, ds6, p6, q6, rfl, rfl, rfl, h6, r6⟩ := trodAll_cons r5
  obtain ⟨v7, vs7, d7, ds7, p7, q7, rfl, rfl, rfl, h7, r7⟩ := trodAll_cons r6
  obtain ⟨rfl, rfl, rfl⟩ := trodAll_nil r7
  obtain rfl : args = #[v0, v1, v2, v3, v4, v5, v6, v7] := by cases args; simp_all
  obtain ⟨rfl, rfl⟩ := trodVars_none hV
  clear hA0
  simp only [List.append_nil] at hW'
  obtain ⟨n0, m0, rfl, sn0, sm0⟩ := rat_val (hval 0 26 v0 rfl rfl) h0
  obtain ⟨n1, m1, rfl, sn1, sm1⟩ := rat_val (hval 1 26 v1 rfl rfl) h1
  obtain ⟨a2, e2, c2, d2, rfl, ma2, me2, mc2, md2⟩ := arr4 Tryz.underlying22 Tryz.underlying3 (by kernel_rfl) (by kernel_rfl) (hval 2 22 v2 rfl rfl) h2
  obtain ⟨a3, e3, c3, d3, rfl, ma3, me3, mc3, md3⟩ := arr4 Tryz.underlying22 Tryz.underlying3 (by kernel_rfl) (by kernel_rfl) (hval 3 22 v3 rfl rfl) h3
  obtain ⟨a4, e4, rfl, ma4, me4⟩ := arr2 Tryz.underlying23 Tryz.underlying3 (by kernel_rfl) (by kernel_rfl) (hval 4 23 v4 rfl rfl) h4
  obtain ⟨x5, rfl, rfl, rfl, wx5⟩ := open_int Tryz.underlying3 (hval 5 3 v5 rfl rfl) h5
  obtain ⟨x6, rfl, rfl, rfl, wx6⟩ := open_int Tryz.underlying3 (hval 6 3 v6 rfl rfl) h6
  obtain ⟨x7, rfl, rfl, rfl, wx7⟩ := open_int Tryz.underlying3 (hval 7 3 v7 rfl rfl) h7
  obtain ⟨l5, u5⟩ := i64_bd4 wx5
  obtain ⟨l6, u6⟩ := i64_bd4 wx6
  obtain ⟨l7, u7⟩ := i64_bd4 wx7
  refine (law_ref4 n0 m0 n1 m1 a2 e2 c2 d2 a3 e3 c3 d3 a4 e4 x5 x6 x7 W hR (Nat.le_trans sn0 (by decide +kernel)) (Nat.le_trans sm0 (by decide +kernel)) (Nat.le_trans sn1 (by decide +kernel)) (Nat.le_trans sm1 (by decide +kernel)) ma2 me2 mc2 md2 ma3 me3 mc3 md3 ma4 me4 ⟨l5, u5⟩ ⟨l6, u6⟩ ⟨l7, u7⟩).mono fun e W' ⟨he, hb⟩ => ?_
  subst he
  exact ⟨_, rfl, law_post laidOut readable rfl (by kernel_rfl) Tryz.underlying4 rfl rfl rfl hW' hb⟩

theorem reads (os : Os) {H : Type} (enc : TypeId × Value → H) : ∃ places, DataW.whole enc Tryz.prog ((laidWorld os).forCall (fun _ _ => 0) ⟨#[], #[.agg #[.string ⟨#[]⟩, .string ⟨#[]⟩], .agg #[.string ⟨#[]⟩, .string ⟨#[]⟩], .agg #[.int .i64 0, .int .i64 0, .int .i64 0, .int .i64 0], .agg #[.int .i64 0, .int .i64 0, .int .i64 0, .int .i64 0], .agg #[.int .i64 0, .int .i64 0], .int .i64 0, .int .i64 0, .int .i64 0], []⟩).memory Tryz.f17.params.toList Rows.rationalMatchesReferenceSpec.vars false (#[.agg #[.string ⟨#[]⟩, .string ⟨#[]⟩], .agg #[.string ⟨#[]⟩, .string ⟨#[]⟩], .agg #[.int .i64 0, .int .i64 0, .int .i64 0, .int .i64 0], .agg #[.int .i64 0, .int .i64 0, .int .i64 0, .int .i64 0], .agg #[.int .i64 0, .int .i64 0], .int .i64 0, .int .i64 0, .int .i64 0] : Array Value).toList 8 = some ([.agg [.lit (.string []), .lit (.string [])], .agg [.lit (.string []), .lit (.string [])], .agg [.lit (.int .i64 0), .lit (.int .i64 0), .lit (.int .i64 0), .lit (.int .i64 0)], .agg [.lit (.int .i64 0), .lit (.int .i64 0), .lit (.int .i64 0), .lit (.int .i64 0)], .agg [.lit (.int .i64 0), .lit (.int .i64 0)], .lit (.int .i64 0), .lit (.int .i64 0), .lit (.int .i64 0)], [], places) :=
  ⟨[], by kernel_rfl⟩

set_option maxRecDepth 100000 in
theorem lifted (os : Os) (started : os.Started) (H : Type) (enc : TypeId × Value → H) (F : Stop.Interp) :
    ReturnsInHanded {} Tryz.checked os 17 .any ((OpenSpec.ofChange Rows.rationalMatchesReferenceSpec).preRow enc Tryz.prog Tryz.f17 Rows.rationalMatchesReferenceRow.domain false Rows.rationalMatchesReferenceRow.laid) (((OpenSpec.ofChange Rows.rationalMatchesReferenceSpec).at F).post enc Tryz.prog Tryz.f17 false true false false) := by
  obtain ⟨places, hx⟩ := reads os enc
  refine returnsInHanded_of_row (C := Tryz.checked) (s := OpenSpec.ofChange Rows.rationalMatchesReferenceSpec) own started (by kernel_rfl) Tryz.func17
    (witness_row_at (enc := enc) (C := Tryz.checked) false (laidWorld os) #[.agg #[.string ⟨#[]⟩, .string ⟨#[]⟩], .agg #[.string ⟨#[]⟩, .string ⟨#[]⟩], .agg #[.int .i64 0, .int .i64 0, .int .i64 0, .int .i64 0], .agg #[.int .i64 0, .int .i64 0, .int .i64 0, .int .i64 0], .agg #[.int .i64 0, .int .i64 0], .int .i64 0, .int .i64 0, .int .i64 0] rfl (by kernel_rfl) (by kernel_rfl) (by kernel_rfl)
      (OpenSpec.preRow_of_cond 8 hx (by kernel_rfl) (fun k hk => by cases hk) (by kernel_rfl) (laidWorld_met os _))) ?_
  intro W base args ds gs before hval hW _ _ _ hL hSh _
  exact contract H enc W base args ds gs before hval hW hL hSh

theorem jf9 : (Rows.rationalMatchesReferenceRow.inPlace == Tryz.prog.inPlace 17) = true := by kernel_rfl
theorem jf10 : (Rows.rationalMatchesReferenceRow.unfollowed == Tryz.prog.unfollowed 17) = true := by kernel_rfl
theorem jf11 : (Rows.rationalMatchesReferenceRow.recurses == Tryz.prog.recurses 17) = true := by kernel_rfl
theorem jf12 : (Rows.rationalMatchesReferenceRow.named == Tryz.prog.varsNamed 17) = true := by kernel_rfl
theorem closed : joinedFacts Tryz.pinned.checked.prog 17 Tryz.f17 (OpenSpec.ofChange Rows.rationalMatchesReferenceSpec).bare Rows.rationalMatchesReferenceRow = true :=
  joined_of (by kernel_rfl) (jf_laidOut) (jf_mapsRowed) (by kernel_rfl) (by kernel_rfl) (by kernel_rfl) (jf_stops) (by kernel_rfl) (jf_knobs) (jf9) (jf10) (jf11) (jf12) (by kernel_rfl) (by kernel_rfl) (by kernel_rfl) (by kernel_rfl) (by kernel_rfl) (by kernel_rfl) (by kernel_rfl) (by kernel_rfl) (by kernel_rfl) (jf_plainKeys) (by kernel_rfl) (jf_heard) (jf_enter) (jf_lifted) (by kernel_rfl) (by kernel_rfl) (by kernel_rfl) (by kernel_rfl) (by kernel_rfl)
theorem said : Rows.RationalMatchesReferenceSaid :=
  OpenClaim.holds_of_cond 17 Tryz.f17 rfl rfl rfl rfl rfl rfl rfl ⟨rfl, rfl, rfl, rfl, rfl⟩ rfl rfl rfl rfl rfl (by kernel_rfl) Tryz.func17 closed
    (of_decide_eq_true (by kernel_rfl)) (by unfold Func.isWrapper; first | (rw [if_pos (by decide +kernel)]; kernel_rfl) | (rw [if_neg (by decide +kernel)]; exact ⟨rfl, rfl⟩))
    (fun os started H enc _ F => by rw [OpenClaim.pre_eq_preRow]; exact lifted os started H enc F)

theorem plain (f : FuncId) (fn : Func) (hf : Tryz.pinned.checked.prog.funcNamed "nadir/nadirlaw04.RationalMatchesReference" = some f) (hfn : Tryz.pinned.checked.prog.funcs[f]? = some fn) :
    true = Tryz.pinned.checked.prog.looks [] ∧ ∀ (j : Nat) t, fn.params[j]? = some t → Tryz.pinned.checked.prog.wantsStandIn t = false := by
  obtain rfl : f = 17 := Option.some.inj ((show Tryz.prog.funcNamed "nadir/nadirlaw04.RationalMatchesReference" = some 17 by kernel_rfl).symm.trans hf) |>.symm
  obtain rfl : fn = Tryz.f17 := (Option.some.inj (Tryz.func17.symm.trans hfn)).symm
  refine ⟨jf_looks, fun j t ht => ?_⟩
  rw [Tryz.params17] at ht
  have hm : t ∈ ([26, 26, 22, 22, 23, 3, 3, 3] : List Nat) := by
    have := Array.mem_of_getElem? ht
    simpa using this
  revert t
  have hall : ∀ t ∈ ([26, 26, 22, 22, 23, 3, 3, 3] : List Nat), Tryz.prog.wantsStandIn t = false := by
    intro t ht
    have h := List.all_eq_true.1 (show ([26, 26, 22, 22, 23, 3, 3, 3] : List Nat).all (fun t => !(Tryz.prog.wantsStandIn t)) = true by kernel_rfl) t ht
    simpa using h
  intro t _ hm
  exact hall t hm

theorem cw : Rows.rationalMatchesReferenceRow.wfByText (OpenSpec.ofChange Rows.rationalMatchesReferenceSpec) = true := by kernel_rfl
theorem cg : false = Rows.rationalMatchesReferenceRow.goesBy Tryz.pinned.checked.prog := by kernel_rfl
theorem card : Rows.RationalMatchesReferenceCardSaid :=
  Claim7.holds_tied_plain_at .later [] _ _ _ _ said (fun _ h => by cases h) cw (fun _ h => by cases h) rationalMatchesReference_row_tie rfl ⟨rfl, rfl⟩ jf_main rfl plain cg
end Go.Proofs.YtjnpenljgfdaiaaGreatDoor.fnRationalMatchesReference
