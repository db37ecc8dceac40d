/- nadirlaw18.LossMatchesReference, both cases. -/
import Derived.Test.YtmajkagmcdlncaaL3a
import Derived.Test.YtmajkagmcdlncaaL3b
namespace Go.Proofs.Ytmajkagmcdlncaa
open Go.RowKit Go.Shelf
open L18 (Pass Slot noPass noSlot validB passesG optV pickV X3 ownV mostV sentV allowB limB)

set_option maxRecDepth 100000 in
set_option maxHeartbeats 8000000 in
theorem matches_true (vx vy vo vl : Value) (x : List X3) (y : List Int) (od0 : OptD) (sp : Pass) (wh st kk : Int) (lo : List Int) (w : World) (hx : XsAt w vx x) (hy : IntsAt w vy y) (ho : OptV w vo od0) (hlo : IntsAt w vl lo) (hxr : ∀ a ∈ x, XR a) (hyr : ∀ a ∈ y, InR a) (hwh : InR wh) (hst : InR st) (hkk : InR kk) :
    Calls Try.prog 3 #[vx, vy, vo, passVal sp, .int .i64 wh, vl, .int .i64 st, .int .i64 kk] w fun e w' => e = .returned (.bool true) ∧ Below w.heap.size w w' := by
  by_cases h : passesG x = []
  · exact matches_nil vx vy vo vl x y od0 sp wh st kk lo w hx hy ho hlo hxr hyr hwh hst hkk h
  · exact matches_some vx vy vo vl x y od0 sp wh st kk lo w hx hy ho hlo hxr hyr hwh hst hkk (List.length_pos_iff.2 h)
end Go.Proofs.Ytmajkagmcdlncaa
