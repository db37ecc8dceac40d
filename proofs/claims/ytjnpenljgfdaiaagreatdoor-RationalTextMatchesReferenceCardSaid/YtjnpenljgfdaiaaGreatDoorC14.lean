/- 'RationalTextMatchesReference' returns true for every input, and reads its arguments behind the call as before: the row, and the card that ties the listed variables to the program's text. No condition. -/
import Derived.Test.YtjnpenljgfdaiaaGreatDoorCards
import Derived.Test.YtjnpenljgfdaiaaGreatDoorTie
import Derived.Test.YtjnpenljgfdaiaaGreatDoorEnv
import Derived.Test.YtjnpenljgfdaiaaGreatDoorJF
import Derived.Test.YtjnpenljgfdaiaaGreatDoorLawKit
import Derived.Test.YtjnpenljgfdaiaaGreatDoorRead
import Derived.Test.YtjnpenljgfdaiaaGreatDoorL14
namespace Go.Proofs.YtjnpenljgfdaiaaGreatDoor.fnRationalTextMatchesReference
open Go.ChangeShapes Go.WideShapes Go.ChangeAt Go.RowKit Go.Proofs.YtjnpenljgfdaiaaGreatDoor
open Go.ChangeMaps (open_string)

theorem own : ownKnob Tryz.prog.godebug = none := by kernel_rfl
theorem laidOut : laidOutB Tryz.prog = true := jf_laidOut
theorem readable : (Tryz.f14.params.toList.all fun t => Tryz.prog.readableRec t && decide (t < Tryz.prog.types.size)) = true := by kernel_rfl

set_option maxRecDepth 100000 in
theorem contract (H : Type) (enc : TypeId × Value → H) (W : World) (base : Nat) (args : Array Value) (ds gs : List (DataW H)) (before : List MemPlace)
    (hval : ∀ (j : Nat) t v, Tryz.f14.params[j]? = some t → args[j]? = some v → Value.okWide Tryz.prog W .any base t v)
    (hW : DataW.Whole enc Tryz.prog Tryz.f14.params.toList Rows.rationalTextMatchesReferenceSpec.vars false W args.toList ds gs before) (hL : laidMetH Tryz.prog Rows.rationalTextMatchesReferenceRow.laid W) (hSh : W.ShapedOpen Tryz.prog) :
    Calls Tryz.prog 14 args W fun e W' => ∃ v, e = .returned v ∧ Rows.rationalTextMatchesReferenceSpec.post enc Tryz.prog Tryz.f14 false true false false W args v W' := by
  have hE : EnvW W := env_of_laid hL
  have hR : EnvR W := ⟨hE, cell_of_shapedOpen_int (t := 3) (k := .i64) (zero := #[.int .i64 0]) (g := 2) hSh (of_decide_eq_true (by kernel_rfl)) (by kernel_rfl) rfl (by kernel_rfl) (by kernel_rfl) Tryz.underlying3⟩
  have hW' := hW
  have hlt : ∀ p ∈ before, p.block < W.heap.size := fun p hp => hW.lt p hp
  obtain ⟨p, q, hA0, hV, rfl, hfz, hnd⟩ := hW
  have hA : DataW.TrodAll enc Tryz.prog W 0 (fun _ => true) true Tryz.f14.params.toList args.toList ds p := hA0
  rw [Tryz.params14] at hA hval
  obtain ⟨v0, vs0, d0, ds0, p0, q0, hargs, rfl, rfl, h0, r0⟩ := trodAll_cons hA
  obtain ⟨v1, vs1, d1, ds1, p1, q1, rfl, rfl, rfl, h1, r1⟩ := trodAll_cons r0
  obtain ⟨v2, vs2, d2, ds2, p2, q2, rfl, rfl, rfl, h2, r2⟩ := trodAll_cons r1
  obtain ⟨v3, vs3, d3, ds3, p3, q3, rfl, rfl, rfl, h3, r3⟩ := trodAll_cons r2
  obtain ⟨v4, vs4, d4, ds4, p4, q4, rfl, rfl, rfl, h4, r4⟩ := trodAll_cons r3
  obtain ⟨rfl, rfl, rfl⟩ := trodAll_nil r4
  obtain rfl : args = #[v0, v1, v2, v3, v4] := by cases args; simp_all
  obtain ⟨rfl, rfl⟩ := trodVars_none hV
  clear hA0
  simp only [List.append_nil] at hW'
  obtain ⟨n0, m0, rfl, sn0, sm0⟩ := rat_val (hval 0 26 v0 rfl rfl) h0
  obtain ⟨a1, e1, c1, d1, rfl, ma1, me1, mc1, md1⟩ := arr4 Tryz.underlying22 Tryz.underlying3 (by kernel_rfl) (by kernel_rfl) (hval 1 22 v1 rfl rfl) h1
  obtain ⟨x2, rfl, rfl, rfl, wx2⟩ := open_int Tryz.underlying3 (hval 2 3 v2 rfl rfl) h2
  obtain ⟨x3, rfl, rfl, rfl, wx3⟩ := open_int Tryz.underlying5 (hval 3 5 v3 rfl rfl) h3
  obtain ⟨s4, rfl, rfl, rfl, hs4⟩ := open_string Tryz.underlying9 (hval 4 9 v4 rfl rfl) h4
  obtain ⟨l2, u2⟩ := i64_bd4 wx2
  obtain ⟨k3, rfl, lk3⟩ := u8_bd5 wx3
  refine (law_text4 n0 m0 s4 a1 e1 c1 d1 x2 k3 W hR (Nat.le_trans sn0 (by decide +kernel)) (Nat.le_trans sm0 (by decide +kernel)) (Nat.le_trans hs4 (by decide +kernel)) ma1 me1 mc1 md1 ⟨l2, u2⟩ lk3).mono fun e W' ⟨he, hb⟩ => ?_
  subst he
  exact ⟨_, rfl, law_post laidOut readable rfl (by kernel_rfl) Tryz.underlying4 rfl rfl rfl hW' hb⟩

theorem reads (os : Os) {H : Type} (enc : TypeId × Value → H) : ∃ places, DataW.whole enc Tryz.prog ((laidWorld os).forCall (fun _ _ => 0) ⟨#[], #[.agg #[.string ⟨#[]⟩, .string ⟨#[]⟩], .agg #[.int .i64 0, .int .i64 0, .int .i64 0, .int .i64 0], .int .i64 0, .int .u8 0, .string ⟨#[]⟩], []⟩).memory Tryz.f14.params.toList Rows.rationalTextMatchesReferenceSpec.vars false (#[.agg #[.string ⟨#[]⟩, .string ⟨#[]⟩], .agg #[.int .i64 0, .int .i64 0, .int .i64 0, .int .i64 0], .int .i64 0, .int .u8 0, .string ⟨#[]⟩] : Array Value).toList 8 = some ([.agg [.lit (.string []), .lit (.string [])], .agg [.lit (.int .i64 0), .lit (.int .i64 0), .lit (.int .i64 0), .lit (.int .i64 0)], .lit (.int .i64 0), .lit (.int .u8 0), .lit (.string [])], [], places) :=
  ⟨[], by kernel_rfl⟩

set_option maxRecDepth 100000 in
theorem lifted (os : Os) (started : os.Started) (H : Type) (enc : TypeId × Value → H) (F : Stop.Interp) :
    ReturnsInHanded {} Tryz.checked os 14 .any ((OpenSpec.ofChange Rows.rationalTextMatchesReferenceSpec).preRow enc Tryz.prog Tryz.f14 Rows.rationalTextMatchesReferenceRow.domain false Rows.rationalTextMatchesReferenceRow.laid) (((OpenSpec.ofChange Rows.rationalTextMatchesReferenceSpec).at F).post enc Tryz.prog Tryz.f14 false true false false) := by
  obtain ⟨places, hx⟩ := reads os enc
  refine returnsInHanded_of_row (C := Tryz.checked) (s := OpenSpec.ofChange Rows.rationalTextMatchesReferenceSpec) own started (by kernel_rfl) Tryz.func14
    (witness_row_at (enc := enc) (C := Tryz.checked) false (laidWorld os) #[.agg #[.string ⟨#[]⟩, .string ⟨#[]⟩], .agg #[.int .i64 0, .int .i64 0, .int .i64 0, .int .i64 0], .int .i64 0, .int .u8 0, .string ⟨#[]⟩] rfl (by kernel_rfl) (by kernel_rfl) (by kernel_rfl)
      (OpenSpec.preRow_of_cond 8 hx (by kernel_rfl) (fun k hk => by cases hk) (by kernel_rfl) (laidWorld_met os _))) ?_
  intro W base args ds gs before hval hW _ _ _ hL hSh _
  exact contract H enc W base args ds gs before hval hW hL hSh

theorem jf9 : (Rows.rationalTextMatchesReferenceRow.inPlace == Tryz.prog.inPlace 14) = true := by kernel_rfl
theorem jf10 : (Rows.rationalTextMatchesReferenceRow.unfollowed == Tryz.prog.unfollowed 14) = true := by kernel_rfl
theorem jf11 : (Rows.rationalTextMatchesReferenceRow.recurses == Tryz.prog.recurses 14) = true := by kernel_rfl
theorem jf12 : (Rows.rationalTextMatchesReferenceRow.named == Tryz.prog.varsNamed 14) = true := by kernel_rfl
theorem closed : joinedFacts Tryz.pinned.checked.prog 14 Tryz.f14 (OpenSpec.ofChange Rows.rationalTextMatchesReferenceSpec).bare Rows.rationalTextMatchesReferenceRow = true :=
  joined_of (by kernel_rfl) (jf_laidOut) (jf_mapsRowed) (by kernel_rfl) (by kernel_rfl) (by kernel_rfl) (jf_stops) (by kernel_rfl) (jf_knobs) (jf9) (jf10) (jf11) (jf12) (by kernel_rfl) (by kernel_rfl) (by kernel_rfl) (by kernel_rfl) (by kernel_rfl) (by kernel_rfl) (by kernel_rfl) (by kernel_rfl) (by kernel_rfl) (jf_plainKeys) (by kernel_rfl) (jf_heard) (jf_enter) (jf_lifted) (by kernel_rfl) (by kernel_rfl) (by kernel_rfl) (by kernel_rfl) (by kernel_rfl)
theorem said : Rows.RationalTextMatchesReferenceSaid :=
  OpenClaim.holds_of_cond 14 Tryz.f14 rfl rfl rfl rfl rfl rfl rfl ⟨rfl, rfl, rfl, rfl, rfl⟩ rfl rfl rfl rfl rfl (by kernel_rfl) Tryz.func14 closed
    (of_decide_eq_true (by kernel_rfl)) (by unfold Func.isWrapper; first | (rw [if_pos (by decide +kernel)]; kernel_rfl) | (rw [if_neg (by decide +kernel)]; exact ⟨rfl, rfl⟩))
    (fun os started H enc _ F => by rw [OpenClaim.pre_eq_preRow]; exact lifted os started H enc F)

theorem plain (f : FuncId) (fn : Func) (hf : Tryz.pinned.checked.prog.funcNamed "nadir/nadirlaw04.RationalTextMatchesReference" = some f) (hfn : Tryz.pinned.checked.prog.funcs[f]? = some fn) :
    true = Tryz.pinned.checked.prog.looks [] ∧ ∀ (j : Nat) t, fn.params[j]? = some t → Tryz.pinned.checked.prog.wantsStandIn t = false := by
  obtain rfl : f = 14 := Option.some.inj ((show Tryz.prog.funcNamed "nadir/nadirlaw04.RationalTextMatchesReference" = some 14 by kernel_rfl).symm.trans hf) |>.symm
  obtain rfl : fn = Tryz.f14 := (Option.some.inj (Tryz.func14.symm.trans hfn)).symm
  refine ⟨jf_looks, fun j t ht => ?_⟩
  rw [Tryz.params14] at ht
  have hm : t ∈ ([26, 22, 3, 5, 9] : List Nat) := by
    have := Array.mem_of_getElem? ht
    simpa using this
  revert t
  have hall : ∀ t ∈ ([26, 22, 3, 5, 9] : List Nat), Tryz.prog.wantsStandIn t = false := by
    intro t ht
    have h := List.all_eq_true.1 (show ([26, 22, 3, 5, 9] : List Nat).all (fun t => !(Tryz.prog.wantsStandIn t)) = true by kernel_rfl) t ht
    simpa using h
  intro t _ hm
  exact hall t hm

theorem cw : Rows.rationalTextMatchesReferenceRow.wfByText (OpenSpec.ofChange Rows.rationalTextMatchesReferenceSpec) = true := by kernel_rfl
theorem cg : false = Rows.rationalTextMatchesReferenceRow.goesBy Tryz.pinned.checked.prog := by kernel_rfl
theorem card : Rows.RationalTextMatchesReferenceCardSaid :=
  Claim7.holds_tied_plain_at .later [] _ _ _ _ said (fun _ h => by cases h) cw (fun _ h => by cases h) rationalTextMatchesReference_row_tie rfl ⟨rfl, rfl⟩ jf_main rfl plain cg
end Go.Proofs.YtjnpenljgfdaiaaGreatDoor.fnRationalTextMatchesReference
