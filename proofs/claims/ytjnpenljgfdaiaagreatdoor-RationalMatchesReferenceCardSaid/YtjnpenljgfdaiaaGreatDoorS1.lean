/- package sort: Search: the first number at which a function is true. -/
import Derived.Test.YtjnpenljgfdaiaaGreatDoorI2
namespace Go.Proofs.YtjnpenljgfdaiaaGreatDoor
open Go.RowKit Lib

/-- A function value that answers yes or no. -/
def AnsB (w : World) (f : Value) (p : Nat → Bool) : Prop :=
  ∃ (k : Nat) (caps : Array Value), f = .func (.func k) #[] caps ∧ (∀ args w, (callFunc k args).run Tryz.prog w = .ok (.enter k args) w) ∧
    ∀ i : Nat, i < 9999 → ∀ W, Below w.heap.size w W → Calls Tryz.prog k (#[.int .i64 i] ++ caps) W fun e w' => e = .returned (.bool (p i)) ∧ Below W.heap.size W w'
set_option maxRecDepth 100000 in
set_option maxHeartbeats 1000000 in
theorem search_any (n : Nat) (f : Value) (p : Nat → Bool) (w : World) (hf : AnsB w f p) (hm : ∀ i j, i ≤ j → p i = true → p j = true) (hn : n ≤ 9999) :
    Calls Tryz.prog 120 #[.int .i64 n, f] w fun e w' => ∃ d : Nat, e = .returned (.int .i64 d) ∧ d ≤ n ∧ (∀ i, i < d → p i = false) ∧ (d < n → p d = true) ∧ Below w.heap.size w w' := by
  obtain ⟨kf, caps, rfl, hent, hans⟩ := hf
  have HA := Lib.hid hans
  have HM := Lib.hid hm
  clear hans hm
  go_enter Tryz.func120, Tryz.ntmps120
  go_wp2
  go_loopw [5, 6, 7] (fun u5 u6 _ wr => ∃ i j : Nat, i ≤ j ∧ j ≤ n ∧ u5 = .int .i64 i ∧ u6 = .int .i64 j ∧ (∀ x, x < i → p x = false) ∧ (j < n → p j = true) ∧ Below w.heap.size w wr) (fun u5 u6 _ _ => (Go.RowKit.intOf u6 - Go.RowKit.intOf u5).toNat)
  case atStart => exact ⟨0, n, Nat.zero_le _, Nat.le_refl _, rfl, rfl, fun x h => by omega, fun h => by omega, Below.refl _ _⟩
  case round =>
    obtain ⟨i, j, hij, hjn, rfl, rfl, h1, h2, hB⟩ := hrel
    rename World => wr
    have H1 := Lib.hid h1
    have H2 := Lib.hid h2
    clear h1 h2
    by_cases hlt : i < j
    · have hw1 : IntKind.i64.wrap ((i : Int) + j) = (i : Int) + j := by rw [IntKind.wrap_i64]; omega
      obtain ⟨h, hh⟩ : ∃ h : Nat, h = (i + j) / 2 := ⟨_, rfl⟩
      have hc := Lib.hid (HA.out h (by omega) wr hB)
      have e2 := Lib.hid (show ((i : Int) + j) / 2 = (h : Int) by omega)
      have hw2 : IntKind.i64.wrap ((h : Int) + 1) = ((h + 1 : Nat) : Int) := by rw [IntKind.wrap_i64]; omega
      cases hp : p h with
      | false =>
        rw [hp] at hc
        have HF := Lib.hid (fun x (hx : x < h + 1) => show p x = false from by
          cases hx2 : p x with
          | false => rfl
          | true => rw [HM.out x h (by omega) hx2] at hp; cases hp)
        clear hp
        go_wp2_with fail
        rw [e2.out]
        refine hc.out.mono ?_
        rintro e w2 ⟨rfl, hB2⟩
        go_wp2
        go_roundw
        case rel => exact ⟨h + 1, j, by omega, hjn, congrArg (Value.int .i64) (by have := e2.out; omega), rfl, HF.out, H2.out, hB.trans (hB2.mono hB.size)⟩
        case measure => simp [Go.RowKit.intOf]; omega
      | true =>
        rw [hp] at hc
        have HP := Lib.hid hp
        clear hp
        go_wp2_with fail
        rw [e2.out]
        refine hc.out.mono ?_
        rintro e w2 ⟨rfl, hB2⟩
        go_wp2
        go_roundw
        case rel => exact ⟨i, h, by omega, by omega, rfl, congrArg (Value.int .i64) (by have := e2.out; omega), H1.out, fun _ => HP.out, hB.trans (hB2.mono hB.size)⟩
        case measure => simp [Go.RowKit.intOf]; omega
    · obtain rfl : i = j := by omega
      go_wp2
      go_ret
      exact ⟨i, rfl, hjn, H1.out, H2.out, hB⟩
end Go.Proofs.YtjnpenljgfdaiaaGreatDoor
