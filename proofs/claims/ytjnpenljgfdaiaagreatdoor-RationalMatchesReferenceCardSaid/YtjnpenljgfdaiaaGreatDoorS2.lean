/- package integer: what over's search asks; leaving out zeros, told where. -/
import Derived.Test.YtjnpenljgfdaiaaGreatDoorS1
import Derived.Test.YtjnpenljgfdaiaaGreatDoorB4
namespace Go.Proofs.YtjnpenljgfdaiaaGreatDoor
open Go.RowKit Go.Shelf Lib

theorem run_store_func' {P : Program} (w : World) (a : Addr) (m : Mode) (f : Fn) (x y : Array Value) : (store a (.func f x y) m).run P w = stored P w a (.func f x y) m := run_store P w a _ m rfl
theorem make_func' {P : Program} (fn : Fn) (first cap : Array Value) (w : World) : (Instr.makeFunc fn first cap).run P w = .ok (.func fn first cap) w := rfl
set_option maxRecDepth 100000 in
set_option maxHeartbeats 1000000 in
/-- Without zeros at the end: the same cells. -/
theorem trimmed_at (a : Option Addr) (cp : Nat) (l : List Nat) (w : World) (hv : IntsAt w (.slice a l.length cp) (castL l)) (hok : N3.OKl l) :
    Calls Tryz.prog 118 #[.slice a l.length cp] w fun e w' => e = .returned (.slice a (N3.toG (N3.val l)).length cp) ∧ w = w' := by
  obtain ⟨a', cp', hav, h1, h2⟩ := hv.len
  rw [castL_len] at h1 hav
  cases hav
  unfold maxLen at h2
  have HV := Lib.hid hv
  clear hv
  go_enter Tryz.func118, Tryz.ntmps118
  go_wp2
  go_loopw [0] (fun u0 wr => ∃ k : Nat, k ≤ l.length ∧ u0 = .slice a k cp ∧ (∀ j, k ≤ j → l.getD j 0 = 0) ∧ w = wr) (fun u0 _ => match u0 with | .slice _ k _ => k | _ => 0)
  case atStart => exact ⟨l.length, Nat.le_refl _, rfl, fun j hj => by rw [List.getD_eq_getElem?_getD, List.getElem?_eq_none hj]; rfl, rfl⟩
  case round =>
    obtain ⟨k, hk, rfl, hz, rfl⟩ := hrel
    have HZ := Lib.hid hz
    clear hz
    by_cases h0 : 0 < k
    · obtain ⟨b, off, rfl, hc⟩ := HV.out.get (castL_get (show k - 1 < l.length by omega))
      have hw1 : IntKind.i64.wrap ((k : Int) - 1) = ((k - 1 : Nat) : Int) := by rw [IntKind.wrap_i64]; omega
      have hki : (0 : Int) ≤ ((k - 1 : Nat) : Int) ∧ ((k - 1 : Nat) : Int) < (k : Int) := by omega
      have hkc : (0 : Int) ≤ ((k - 1 : Nat) : Int) ∧ ((k - 1 : Nat) : Int) ≤ (cp : Int) := by omega
      by_cases hx : l.getD (k - 1) 0 = 0
      · rw [hx] at hc
        have HX := Lib.hid hx
        clear hx
        go_wp2
        go_roundw
        case rel =>
          refine ⟨k - 1, by omega, rfl, fun j hj => ?_, trivial⟩
          by_cases e : j = k - 1
          · rw [e]; exact HX.out
          · exact HZ.out j (by omega)
        case measure => simp; omega
      · have q : (((l.getD (k - 1) 0 : Nat) : Int) == 0) = false := beq_eq_false_iff_ne.2 (by omega)
        have HX := Lib.hid hx
        have hres := Lib.hid (show (N3.toG (N3.val l)).length = k by
          rw [← N3.trim_eq hok hk HZ.out (.inr HX.out), List.length_take]; omega)
        clear hx
        generalize l.getD (k - 1) 0 = y at hc q
        go_wp2
        go_ret
        exact ⟨by rw [hres.out]; rfl, rfl⟩
    · obtain rfl : k = 0 := by omega
      have hres := Lib.hid (show (N3.toG (N3.val l)).length = 0 by
        rw [← N3.trim_eq hok hk HZ.out (.inl rfl)]; rfl)
      go_wp2
      go_ret
      exact ⟨by rw [hres.out]; rfl, rfl⟩
theorem trimmed_view {a : Option Addr} {cp : Nat} {l : List Nat} {w : World} (hv : IntsAt w (.slice a l.length cp) (castL l)) (hok : N3.OKl l) : NumAt w (.slice a (N3.toG (N3.val l)).length cp) (N3.val l) := by
  obtain ⟨k, hk, hz, hl⟩ : ∃ k, k ≤ l.length ∧ (∀ j, k ≤ j → l.getD j 0 = 0) ∧ (k = 0 ∨ l.getD (k - 1) 0 ≠ 0) := by
    have : ∀ n, n ≤ l.length → (∀ j, n ≤ j → l.getD j 0 = 0) → ∃ k, k ≤ l.length ∧ (∀ j, k ≤ j → l.getD j 0 = 0) ∧ (k = 0 ∨ l.getD (k - 1) 0 ≠ 0) := by
      intro n
      induction n with
      | zero => intro h1 h2; exact ⟨0, h1, h2, .inl rfl⟩
      | succ n ih =>
        intro h1 h2
        by_cases h : l.getD n 0 = 0
        · refine ih (by omega) fun j hj => ?_
          by_cases e : j = n
          · rw [e]; exact h
          · exact h2 j (by omega)
        · exact ⟨n + 1, h1, h2, .inr h⟩
    exact this l.length (Nat.le_refl _) fun j hj => by rw [List.getD_eq_getElem?_getD, List.getElem?_eq_none hj]; rfl
  have e := N3.trim_eq hok hk hz hl
  have hlen : (N3.toG (N3.val l)).length = k := by rw [← e, List.length_take]; omega
  unfold NumAt
  rw [hlen, ← e, ← castL_take]
  exact SliceOf.take (by have := hv; exact this) (by rw [castL_len]; exact hk)
theorem cmp_gt (x y : Int) : decide (0 < N3.cmpI x y) = decide (y < x) := by
  rw [decide_eq_decide]
  unfold N3.cmpI
  split
  · omega
  · split <;> omega
end Go.Proofs.YtjnpenljgfdaiaaGreatDoor
