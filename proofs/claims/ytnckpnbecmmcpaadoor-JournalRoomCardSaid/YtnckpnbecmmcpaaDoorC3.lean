/- 'JournalRoom' returns true for every input, and reads its arguments behind the call as before: the row, and the card that ties the listed variables to the program's text. No condition. -/
import Derived.Test.YtnckpnbecmmcpaaDoorCards
import Derived.Test.YtnckpnbecmmcpaaDoorTie
import Derived.Test.YtnckpnbecmmcpaaDoorEnv
import Derived.Test.YtnckpnbecmmcpaaDoorJF0
import Derived.Test.YtnckpnbecmmcpaaDoorLawKit
import Derived.Test.YtnckpnbecmmcpaaDoorRead
import Derived.Test.YtnckpnbecmmcpaaDoorRD
import Derived.Test.YtnckpnbecmmcpaaDoorL3
namespace Go.Proofs.YtnckpnbecmmcpaaDoor.fnJournalRoom
open Go.ChangeShapes Go.WideShapes Go.ChangeAt Go.RowKit Go.Proofs.YtnckpnbecmmcpaaDoor
open Go.ChangeMaps (open_string)

theorem own : ownKnob Tryd.prog.godebug = none := by kernel_rfl
theorem laidOut : laidOutB Tryd.prog = true := jf_laidOut
theorem readable : (Tryd.f3.params.toList.all fun t => Tryd.prog.readableRec t && decide (t < Tryd.prog.types.size)) = true := by kernel_rfl

set_option maxRecDepth 100000 in
theorem contract (H : Type) (enc : TypeId × Value → H) (W : World) (base : Nat) (args : Array Value) (ds gs : List (DataW H)) (before : List MemPlace)
    (hval : ∀ (j : Nat) t v, Tryd.f3.params[j]? = some t → args[j]? = some v → Value.okWide Tryd.prog W .any base t v)
    (hW : DataW.Whole enc Tryd.prog Tryd.f3.params.toList Rows.journalRoomSpec.vars false W args.toList ds gs before) (hL : laidMetH Tryd.prog Rows.journalRoomRow.laid W) :
    Calls Tryd.prog 3 args W fun e W' => ∃ v, e = .returned v ∧ Rows.journalRoomSpec.post enc Tryd.prog Tryd.f3 false true false false W args v W' := by
  have hE : EnvJ W := env_of_laid hL
  have hW' := hW
  have hlt : ∀ p ∈ before, p.block < W.heap.size := fun p hp => hW.lt p hp
  obtain ⟨p, q, hA0, hV, rfl, hfz, hnd⟩ := hW
  have hA : DataW.TrodAll enc Tryd.prog W 0 (fun _ => true) true Tryd.f3.params.toList args.toList ds p := hA0
  rw [Tryd.params3] at hA hval
  obtain ⟨v0, vs0, d0, ds0, p0, q0, hargs, rfl, rfl, h0, r0⟩ := trodAll_cons hA
  obtain ⟨v1, vs1, d1, ds1, p1, q1, rfl, rfl, rfl, h1, r1⟩ := trodAll_cons r0
  obtain ⟨v2, vs2, d2, ds2, p2, q2, rfl, rfl, rfl, h2, r2⟩ := trodAll_cons r1
  obtain ⟨rfl, rfl, rfl⟩ := trodAll_nil r2
  obtain rfl : args = #[v0, v1, v2] := by cases args; simp_all
  obtain ⟨rfl, rfl⟩ := trodVars_none hV
  clear hA0
  simp only [List.append_nil] at hW'
  obtain ⟨x0, rfl, rfl, rfl, wx0⟩ := open_int Tryd.underlying3 (hval 0 3 v0 rfl rfl) h0
  obtain ⟨l1, hl1, hz1⟩ := slice_strs (hval 1 22 v1 rfl rfl) h1
  obtain ⟨x2, rfl, rfl, rfl, wx2⟩ := open_int Tryd.underlying3 (hval 2 3 v2 rfl rfl) h2
  refine (law_room x0 x2 v1 l1 W hE (inR_wf wx0) (inR_wf wx2) hl1 hz1).mono fun e W' ⟨he, hb⟩ => ?_
  subst he
  exact ⟨_, rfl, law_post laidOut readable rfl (by kernel_rfl) Tryd.underlying4 rfl rfl rfl hW' hb⟩

theorem reads (os : Os) {H : Type} (enc : TypeId × Value → H) : ∃ places, DataW.whole enc Tryd.prog ((laidWorld os).forCall (fun _ _ => 0) ⟨#[], #[.int .i64 0, .slice none 0 0, .int .i64 0], []⟩).memory Tryd.f3.params.toList Rows.journalRoomSpec.vars false (#[.int .i64 0, .slice none 0 0, .int .i64 0] : Array Value).toList 8 = some ([.lit (.int .i64 0), .nil, .lit (.int .i64 0)], [], places) :=
  ⟨[], by kernel_rfl⟩

set_option maxRecDepth 100000 in
theorem lifted (os : Os) (started : os.Started) (H : Type) (enc : TypeId × Value → H) (F : Stop.Interp) :
    ReturnsInHanded {} Tryd.checked os 3 .any ((OpenSpec.ofChange Rows.journalRoomSpec).preRow enc Tryd.prog Tryd.f3 Rows.journalRoomRow.domain false Rows.journalRoomRow.laid) (((OpenSpec.ofChange Rows.journalRoomSpec).at F).post enc Tryd.prog Tryd.f3 false true false false) := by
  obtain ⟨places, hx⟩ := reads os enc
  refine returnsInHanded_of_row (C := Tryd.checked) (s := OpenSpec.ofChange Rows.journalRoomSpec) own started (by kernel_rfl) Tryd.func3
    (witness_row_at (enc := enc) (C := Tryd.checked) false (laidWorld os) #[.int .i64 0, .slice none 0 0, .int .i64 0] rfl (by kernel_rfl) (by kernel_rfl) (by kernel_rfl)
      (OpenSpec.preRow_of_cond 8 hx (by kernel_rfl) (fun k hk => by cases hk) (by kernel_rfl) (laidWorld_met os _))) ?_
  intro W base args ds gs before hval hW _ _ _ hL _ _
  exact contract H enc W base args ds gs before hval hW hL

theorem jf9 : (Rows.journalRoomRow.inPlace == Tryd.prog.inPlace 3) = true := by kernel_rfl
theorem jf10 : (Rows.journalRoomRow.unfollowed == Tryd.prog.unfollowed 3) = true := by kernel_rfl
theorem jf11 : (Rows.journalRoomRow.recurses == Tryd.prog.recurses 3) = true := by kernel_rfl
theorem jf12 : (Rows.journalRoomRow.named == Tryd.prog.varsNamed 3) = true := by kernel_rfl
theorem closed : joinedFacts Tryd.pinned.checked.prog 3 Tryd.f3 (OpenSpec.ofChange Rows.journalRoomSpec).bare Rows.journalRoomRow = true :=
  joined_of (by kernel_rfl) (jf_laidOut) (jf_mapsRowed) (by kernel_rfl) (by kernel_rfl) (by kernel_rfl) (jf_stops) (by kernel_rfl) (jf_knobs) (jf9) (jf10) (jf11) (jf12) (by kernel_rfl) (by kernel_rfl) (by kernel_rfl) (by kernel_rfl) (by kernel_rfl) (by kernel_rfl) (by kernel_rfl) (by kernel_rfl) (by kernel_rfl) (jf_plainKeys) (by kernel_rfl) (jf_heard) (jf_enter) (jf_lifted) (by kernel_rfl) (by kernel_rfl) (by kernel_rfl) (by kernel_rfl) (by kernel_rfl)
theorem said : Rows.JournalRoomSaid :=
  OpenClaim.holds_of_cond 3 Tryd.f3 rfl rfl rfl rfl rfl rfl rfl ⟨rfl, rfl, rfl, rfl, rfl⟩ rfl rfl rfl rfl rfl (by kernel_rfl) Tryd.func3 closed
    (of_decide_eq_true (by kernel_rfl)) (by unfold Func.isWrapper; first | (rw [if_pos (by decide +kernel)]; kernel_rfl) | (rw [if_neg (by decide +kernel)]; exact ⟨rfl, rfl⟩))
    (fun os started H enc _ F => by rw [OpenClaim.pre_eq_preRow]; exact lifted os started H enc F)

theorem plain (f : FuncId) (fn : Func) (hf : Tryd.pinned.checked.prog.funcNamed "nadir/nadirlaw34.JournalRoom" = some f) (hfn : Tryd.pinned.checked.prog.funcs[f]? = some fn) :
    true = Tryd.pinned.checked.prog.looks [] ∧ ∀ (j : Nat) t, fn.params[j]? = some t → Tryd.pinned.checked.prog.wantsStandIn t = false := by
  obtain rfl : f = 3 := Option.some.inj ((show Tryd.prog.funcNamed "nadir/nadirlaw34.JournalRoom" = some 3 by kernel_rfl).symm.trans hf) |>.symm
  obtain rfl : fn = Tryd.f3 := (Option.some.inj (Tryd.func3.symm.trans hfn)).symm
  refine ⟨jf_looks, fun j t ht => ?_⟩
  rw [Tryd.params3] at ht
  have hm : t ∈ ([3, 22, 3] : List Nat) := by
    have := Array.mem_of_getElem? ht
    simpa using this
  revert t
  have hall : ∀ t ∈ ([3, 22, 3] : List Nat), Tryd.prog.wantsStandIn t = false := by
    intro t ht
    have h := List.all_eq_true.1 (show ([3, 22, 3] : List Nat).all (fun t => !(Tryd.prog.wantsStandIn t)) = true by kernel_rfl) t ht
    simpa using h
  intro t _ hm
  exact hall t hm

theorem cw : Rows.journalRoomRow.wfByText (OpenSpec.ofChange Rows.journalRoomSpec) = true := by kernel_rfl
theorem cg : false = Rows.journalRoomRow.goesBy Tryd.pinned.checked.prog := by kernel_rfl
theorem card : Rows.JournalRoomCardSaid :=
  Claim7.holds_tied_plain_at .later [] _ _ _ _ said (fun _ h => by cases h) cw (fun _ h => by cases h) journalRoom_row_tie rfl ⟨rfl, rfl⟩ jf_main rfl plain cg
end Go.Proofs.YtnckpnbecmmcpaaDoor.fnJournalRoom
