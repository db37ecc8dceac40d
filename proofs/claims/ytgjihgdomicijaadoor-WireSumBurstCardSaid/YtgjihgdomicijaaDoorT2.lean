import Derived.Test.YtgjihgdomicijaaDoorProg
import Derived.Test.YtgjihgdomicijaaDoorPlain
import Derived.Test.YtgjihgdomicijaaDoorKit
import Derived.Outline
namespace Go.Proofs.YtgjihgdomicijaaDoor
open Go.RowKit

theorem zig_any (n : Int) (w : World) (h0 : -4611686018427387903 ≤ n) (h1 : n ≤ 4611686018427387903) :
    Calls Tryd.prog 24 #[.int .i64 n] w fun e w' => e = .returned (.int .u64 (zig n)) ∧ w = w' := by
  by_cases hn : n < 0
  · go_enter Tryd.func24, Tryd.ntmps24
    go_wp2
    go_ret
    exact ⟨retEq (intEq (by unfold zig; rw [if_pos hn]; omega)), rfl⟩
  · go_enter Tryd.func24, Tryd.ntmps24
    go_wp2
    go_ret
    exact ⟨retEq (intEq (by unfold zig; rw [if_neg (by omega)]; omega)), rfl⟩

theorem E38 : ElemOK Tryd.prog 38 5 (.int .u8 0) 1 1 := ⟨Tryd.underlying38, by kernel_rfl, rfl, by decide⟩

set_option maxRecDepth 20000 in
set_option maxHeartbeats 400000 in
theorem rput_no (n : Int) (w : World) (h : n < -4611686018427387903 ∨ 4611686018427387903 < n) :
    Calls Tryd.prog 13 #[.int .i64 n] w fun e w' => e = .returned (.tuple #[.string ⟨#[]⟩, .int .i64 10]) ∧ w = w' := by
  rcases h with h | h
  · go_enter Tryd.func13, Tryd.ntmps13
    go_wp2
    go_ret2
    exact ⟨rfl, rfl⟩
  · have h' : ¬ n < -4611686018427387903 := by omega
    go_enter Tryd.func13, Tryd.ntmps13
    go_wp2
    go_ret2
    exact ⟨rfl, rfl⟩

set_option maxRecDepth 20000 in
set_option maxHeartbeats 400000 in
theorem rput_yes (n : Int) (w : World) (h0 : -4611686018427387903 ≤ n) (h1 : n ≤ 4611686018427387903) :
    Calls Tryd.prog 13 #[.int .i64 n] w fun e w' => e = .returned (.tuple #[.string (strOfNums (enc (zig n))), .int .i64 0]) ∧ Below w.heap.size w w' := by
  have hz := zig_lt h0 h1
  have hlen := enc_zig_len h0 h1
  have hzig := fun W => zig_any n W h0 h1
  generalize zig n = z at hz hlen hzig ⊢
  go_enter Tryd.func13, Tryd.ntmps13
  go_wp2_with fail
  refine (hzig _).mono ?_
  clear hzig
  rintro e w' ⟨rfl, rfl⟩
  go_wp2
  go_loopw [4, 5] (fun u4 u5 wr => ∃ (z' : Nat) (pre : List Int), u4 = .int .u64 z' ∧ enc z = pre ++ enc z' ∧ z' ≤ z ∧ wr.ownsRow w.heap.size 5 1 u5 pre.length (pre.map (Value.int .u8)) ∧ Below w.heap.size w wr) (fun u4 _ _ => (intOf u4).toNat)
  case atStart => exact ⟨z, [], rfl, rfl, Nat.le_refl _, World.ownsRow_nil _ _ _ _, Below.refl _ _⟩
  case round =>
    obtain ⟨z', pre, rfl, hE, hzz, hown, hB⟩ := hrel
    have HE := Lib.hid hE
    have hpl : pre.length ≤ 9 := by have := congrArg List.length hE; simp at this; omega
    clear hE
    by_cases hlt : 128 ≤ z'
    · have hone : pre.length + 1 ≤ 9 := by
        have := congrArg List.length HE.out
        rw [enc_ge hlt] at this; simp at this; omega
      go_wp2_with (at_builtin; refine wpList_push E38 rfl _ _ rfl w.heap.size hown rfl rfl rfl (by unfold maxLen; omega) (by omega) hB.size ?_; intro v' w1 hown' hgrow hb1)
      go_roundw
      case rel => exact ⟨z' / 128, pre ++ [(z' : Int) % 128 + 128], by go_num, by rw [HE.out, enc_ge hlt]; simp, by omega, by simpa using hown', hB.trans hb1⟩
      case measure => simp [intOf]; omega
    · have hE := HE.out
      have hEl := enc_lt (z := z') (by omega)
      rw [hEl] at hE
      have HE2 := Lib.hid hE
      clear HE hE hEl
      go_wp2_with (at_builtin; refine wpList_push E38 rfl _ _ rfl w.heap.size hown rfl rfl rfl (by unfold maxLen; omega) (by omega) hB.size ?_; intro v' w1 hown' hgrow hb1; have hcv := run_convert_owned (xs := pre ++ [(z' : Int)]) 38 9 Tryd.underlying38 Tryd.underlying5 Tryd.underlying9 (by simpa using hown'))
      go_ret2
      exact ⟨by rw [HE2.out]; rfl, hB.trans hb1⟩
end Go.Proofs.YtgjihgdomicijaaDoor
