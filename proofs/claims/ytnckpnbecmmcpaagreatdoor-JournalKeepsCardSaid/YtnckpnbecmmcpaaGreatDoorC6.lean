/- 'JournalKeeps' returns true for every input, and reads its arguments behind the call as before: the row, and the card that ties the listed variables to the program's text. No condition. -/
import Derived.Test.YtnckpnbecmmcpaaGreatDoorCards
import Derived.Test.YtnckpnbecmmcpaaGreatDoorTie
import Derived.Test.YtnckpnbecmmcpaaGreatDoorEnv
import Derived.Test.YtnckpnbecmmcpaaGreatDoorJF0
import Derived.Test.YtnckpnbecmmcpaaGreatDoorLawKit
import Derived.Test.YtnckpnbecmmcpaaGreatDoorRead
import Derived.Test.YtnckpnbecmmcpaaGreatDoorRD
import Derived.Test.YtnckpnbecmmcpaaGreatDoorL6
namespace Go.Proofs.YtnckpnbecmmcpaaGreatDoor.fnJournalKeeps
open Go.ChangeShapes Go.WideShapes Go.ChangeAt Go.RowKit Go.Proofs.YtnckpnbecmmcpaaGreatDoor
open Go.ChangeMaps (open_string)

theorem own : ownKnob Tryz.prog.godebug = none := by kernel_rfl
theorem laidOut : laidOutB Tryz.prog = true := jf_laidOut
theorem readable : (Tryz.f6.params.toList.all fun t => Tryz.prog.readableRec t && decide (t < Tryz.prog.types.size)) = true := by kernel_rfl

set_option maxRecDepth 100000 in
theorem contract (H : Type) (enc : TypeId × Value → H) (W : World) (base : Nat) (args : Array Value) (ds gs : List (DataW H)) (before : List MemPlace)
    (hval : ∀ (j : Nat) t v, Tryz.f6.params[j]? = some t → args[j]? = some v → Value.okWide Tryz.prog W .any base t v)
    (hW : DataW.Whole enc Tryz.prog Tryz.f6.params.toList Rows.journalKeepsSpec.vars false W args.toList ds gs before) (hL : laidMetH Tryz.prog Rows.journalKeepsRow.laid W) :
    Calls Tryz.prog 6 args W fun e W' => ∃ v, e = .returned v ∧ Rows.journalKeepsSpec.post enc Tryz.prog Tryz.f6 false true false false W args v W' := by
  have hE : EnvJ W := env_of_laid hL
  have hW' := hW
  have hlt : ∀ p ∈ before, p.block < W.heap.size := fun p hp => hW.lt p hp
  obtain ⟨p, q, hA0, hV, rfl, hfz, hnd⟩ := hW
  have hA : DataW.TrodAll enc Tryz.prog W 0 (fun _ => true) true Tryz.f6.params.toList args.toList ds p := hA0
  rw [Tryz.params6] at hA hval
  obtain ⟨v0, vs0, d0, ds0, p0, q0, hargs, rfl, rfl, h0, r0⟩ := trodAll_cons hA
  obtain ⟨v1, vs1, d1, ds1, p1, q1, rfl, rfl, rfl, h1, r1⟩ := trodAll_cons r0
  obtain ⟨rfl, rfl, rfl⟩ := trodAll_nil r1
  obtain rfl : args = #[v0, v1] := by cases args; simp_all
  obtain ⟨rfl, rfl⟩ := trodVars_none hV
  clear hA0
  simp only [List.append_nil] at hW'
  obtain ⟨x0, rfl, rfl, rfl, wx0⟩ := open_int Tryz.underlying3 (hval 0 3 v0 rfl rfl) h0
  obtain ⟨l1, hl1⟩ := slice_ops (hval 1 60 v1 rfl rfl) h1
  refine (law_keeps x0 v1 l1 W hE (inR_wf wx0) hl1).mono fun e W' ⟨he, hb⟩ => ?_
  subst he
  exact ⟨_, rfl, law_post laidOut readable rfl (by kernel_rfl) Tryz.underlying4 rfl rfl rfl hW' hb⟩

theorem reads (os : Os) {H : Type} (enc : TypeId × Value → H) : ∃ places, DataW.whole enc Tryz.prog ((laidWorld os).forCall (fun _ _ => 0) ⟨#[], #[.int .i64 0, .slice none 0 0], []⟩).memory Tryz.f6.params.toList Rows.journalKeepsSpec.vars false (#[.int .i64 0, .slice none 0 0] : Array Value).toList 8 = some ([.lit (.int .i64 0), .nil], [], places) :=
  ⟨[], by kernel_rfl⟩

set_option maxRecDepth 100000 in
theorem lifted (os : Os) (started : os.Started) (H : Type) (enc : TypeId × Value → H) (F : Stop.Interp) :
    ReturnsInHanded {} Tryz.checked os 6 .any ((OpenSpec.ofChange Rows.journalKeepsSpec).preRow enc Tryz.prog Tryz.f6 Rows.journalKeepsRow.domain false Rows.journalKeepsRow.laid) (((OpenSpec.ofChange Rows.journalKeepsSpec).at F).post enc Tryz.prog Tryz.f6 false true false false) := by
  obtain ⟨places, hx⟩ := reads os enc
  refine returnsInHanded_of_row (C := Tryz.checked) (s := OpenSpec.ofChange Rows.journalKeepsSpec) own started (by kernel_rfl) Tryz.func6
    (witness_row_at (enc := enc) (C := Tryz.checked) false (laidWorld os) #[.int .i64 0, .slice none 0 0] rfl (by kernel_rfl) (by kernel_rfl) (by kernel_rfl)
      (OpenSpec.preRow_of_cond 8 hx (by kernel_rfl) (fun k hk => by cases hk) (by kernel_rfl) (laidWorld_met os _))) ?_
  intro W base args ds gs before hval hW _ _ _ hL _ _
  exact contract H enc W base args ds gs before hval hW hL

theorem jf9 : (Rows.journalKeepsRow.inPlace == Tryz.prog.inPlace 6) = true := by kernel_rfl
theorem jf10 : (Rows.journalKeepsRow.unfollowed == Tryz.prog.unfollowed 6) = true := by kernel_rfl
theorem jf11 : (Rows.journalKeepsRow.recurses == Tryz.prog.recurses 6) = true := by kernel_rfl
theorem jf12 : (Rows.journalKeepsRow.named == Tryz.prog.varsNamed 6) = true := by kernel_rfl
theorem closed : joinedFacts Tryz.pinned.checked.prog 6 Tryz.f6 (OpenSpec.ofChange Rows.journalKeepsSpec).bare Rows.journalKeepsRow = true :=
  joined_of (by kernel_rfl) (jf_laidOut) (jf_mapsRowed) (by kernel_rfl) (by kernel_rfl) (by kernel_rfl) (jf_stops) (by kernel_rfl) (jf_knobs) (jf9) (jf10) (jf11) (jf12) (by kernel_rfl) (by kernel_rfl) (by kernel_rfl) (by kernel_rfl) (by kernel_rfl) (by kernel_rfl) (by kernel_rfl) (by kernel_rfl) (by kernel_rfl) (jf_plainKeys) (by kernel_rfl) (jf_heard) (jf_enter) (jf_lifted) (by kernel_rfl) (by kernel_rfl) (by kernel_rfl) (by kernel_rfl) (by kernel_rfl)
theorem said : Rows.JournalKeepsSaid :=
  OpenClaim.holds_of_cond 6 Tryz.f6 rfl rfl rfl rfl rfl rfl rfl ⟨rfl, rfl, rfl, rfl, rfl⟩ rfl rfl rfl rfl rfl (by kernel_rfl) Tryz.func6 closed
    (of_decide_eq_true (by kernel_rfl)) (by unfold Func.isWrapper; first | (rw [if_pos (by decide +kernel)]; kernel_rfl) | (rw [if_neg (by decide +kernel)]; exact ⟨rfl, rfl⟩))
    (fun os started H enc _ F => by rw [OpenClaim.pre_eq_preRow]; exact lifted os started H enc F)

theorem plain (f : FuncId) (fn : Func) (hf : Tryz.pinned.checked.prog.funcNamed "nadir/nadirlaw34.JournalKeeps" = some f) (hfn : Tryz.pinned.checked.prog.funcs[f]? = some fn) :
    true = Tryz.pinned.checked.prog.looks [] ∧ ∀ (j : Nat) t, fn.params[j]? = some t → Tryz.pinned.checked.prog.wantsStandIn t = false := by
  obtain rfl : f = 6 := Option.some.inj ((show Tryz.prog.funcNamed "nadir/nadirlaw34.JournalKeeps" = some 6 by kernel_rfl).symm.trans hf) |>.symm
  obtain rfl : fn = Tryz.f6 := (Option.some.inj (Tryz.func6.symm.trans hfn)).symm
  refine ⟨jf_looks, fun j t ht => ?_⟩
  rw [Tryz.params6] at ht
  have hm : t ∈ ([3, 60] : List Nat) := by
    have := Array.mem_of_getElem? ht
    simpa using this
  revert t
  have hall : ∀ t ∈ ([3, 60] : List Nat), Tryz.prog.wantsStandIn t = false := by
    intro t ht
    have h := List.all_eq_true.1 (show ([3, 60] : List Nat).all (fun t => !(Tryz.prog.wantsStandIn t)) = true by kernel_rfl) t ht
    simpa using h
  intro t _ hm
  exact hall t hm

theorem cw : Rows.journalKeepsRow.wfByText (OpenSpec.ofChange Rows.journalKeepsSpec) = true := by kernel_rfl
theorem cg : false = Rows.journalKeepsRow.goesBy Tryz.pinned.checked.prog := by kernel_rfl
theorem card : Rows.JournalKeepsCardSaid :=
  Claim7.holds_tied_plain_at .later [] _ _ _ _ said (fun _ h => by cases h) cw (fun _ h => by cases h) journalKeeps_row_tie rfl ⟨rfl, rfl⟩ jf_main rfl plain cg
end Go.Proofs.YtnckpnbecmmcpaaGreatDoor.fnJournalKeeps
