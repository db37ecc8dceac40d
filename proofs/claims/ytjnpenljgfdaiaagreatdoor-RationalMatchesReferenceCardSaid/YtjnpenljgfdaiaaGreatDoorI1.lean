/- package integer: a group of a number; leaving out zeros at the end. -/
import Derived.Test.YtjnpenljgfdaiaaGreatDoorChecked
import Derived.Test.YtjnpenljgfdaiaaGreatDoorKit
import Derived.Test.YtjnpenljgfdaiaaGreatDoorRead
import Derived.Test.YtjnpenljgfdaiaaGreatDoorPL
namespace Go.Proofs.YtjnpenljgfdaiaaGreatDoor
open Go.RowKit Lib

abbrev IntsAt (w : World) (v : Value) (l : List Int) : Prop := SliceOf (Value.int .i64) w v l
/-- Groups as integers. -/
def castL (l : List Nat) : List Int := l.map (fun x : Nat => (x : Int))
theorem castL_len (l : List Nat) : (castL l).length = l.length := by simp [castL]
theorem castL_get {l : List Nat} {i : Nat} (h : i < l.length) : (castL l)[i]? = some ((l.getD i 0 : Nat) : Int) := by
  unfold castL
  rw [List.getElem?_map, List.getElem?_eq_getElem h, List.getD_eq_getElem?_getD, List.getElem?_eq_getElem h]; rfl
theorem castL_take (l : List Nat) (k : Nat) : (castL l).take k = castL (l.take k) := by unfold castL; rw [List.map_take]
/-- A number in memory. -/
def NumAt (w : World) (v : Value) (n : Nat) : Prop := IntsAt w v (castL (N3.toG n))
theorem NumAt.below {w w' : World} {v : Value} {n : Nat} (h : NumAt w v n) (hb : Below w.heap.size w w') : NumAt w' v n := SliceOf.below h hb
theorem SliceOf.get {α : Type} {f : α → Value} {w : World} {a : Option Addr} {len cap : Nat} {l : List α} (h : SliceOf f w (.slice a len cap) l) {k : Nat} {y : α} (hk : l[k]? = some y) :
    ∃ b off, a = some ⟨b, off, none⟩ ∧ w.cell? ⟨b, off + k, none⟩ = some (f y) := by
  obtain ⟨a', cap', e, h2, h3, h4⟩ := h
  have hl : 0 < l.length := by
    refine Classical.byContradiction fun hc => ?_
    rw [List.getElem?_eq_none (by omega)] at hk; cases hk
  obtain ⟨b, off, rfl, h5⟩ := h4 hl
  cases e
  exact ⟨b, off, rfl, h5 k y hk⟩
theorem SliceOf.len {α : Type} {f : α → Value} {w : World} {v : Value} {l : List α} (h : SliceOf f w v l) : ∃ (a : Option Addr) (cap : Nat), v = .slice a l.length cap ∧ l.length ≤ cap ∧ cap ≤ maxLen := by
  obtain ⟨a, cap, h1, h2, h3, -⟩ := h; exact ⟨a, cap, h1, h2, h3⟩
theorem SliceOf.take {α : Type} {f : α → Value} {w : World} {a : Option Addr} {len cap : Nat} {l : List α} (h : SliceOf f w (.slice a len cap) l) {n : Nat} (hn : n ≤ l.length) : SliceOf f w (.slice a n cap) (l.take n) := by
  obtain ⟨a', cap', e, h2, h3, h4⟩ := h
  cases e
  have hl : (l.take n).length = n := by rw [List.length_take]; omega
  refine ⟨a, cap, by rw [hl], by rw [hl]; omega, h3, fun hl2 => ?_⟩
  rw [hl] at hl2
  obtain ⟨b, off, rfl, h5⟩ := h4 (by omega)
  refine ⟨b, off, rfl, fun j y hj => h5 j y ?_⟩
  rw [List.getElem?_take] at hj
  split at hj
  · exact hj
  · cases hj
set_option maxRecDepth 100000 in
/-- A group of a number; 0 if there is none. -/
theorem at_any (v : Value) (l : List Nat) (i : Nat) (w : World) (hv : IntsAt w v (castL l)) (hi : i ≤ 9223372036854775807) :
    Calls Tryz.prog 123 #[v, .int .i64 i] w fun e w' => e = .returned (.int .i64 ((l.getD i 0 : Nat) : Int)) ∧ w = w' := by
  obtain ⟨a, cp, rfl, h1, h2⟩ := hv.len
  rw [castL_len] at h1 ⊢
  unfold maxLen at h2
  by_cases h : i < l.length
  · obtain ⟨b, off, rfl, hc⟩ := hv.get (castL_get h)
    have hki : (0 : Int) ≤ (i : Int) ∧ (i : Int) < (l.length : Int) := by omega
    generalize l.getD i 0 = x at hc ⊢
    clear hv
    go_enter Tryz.func123, Tryz.ntmps123
    go_wp2
    go_ret
    exact ⟨rfl, rfl⟩
  · have e : l.getD i 0 = 0 := by rw [List.getD_eq_getElem?_getD, List.getElem?_eq_none (by omega)]; rfl
    rw [e]
    clear hv e
    go_enter Tryz.func123, Tryz.ntmps123
    go_wp2
    go_ret
    exact ⟨rfl, rfl⟩
set_option maxRecDepth 100000 in
set_option maxHeartbeats 1000000 in
/-- Without zeros at the end. -/
theorem trimmed_any (v : Value) (l : List Nat) (w : World) (hv : IntsAt w v (castL l)) (hok : N3.OKl l) :
    Calls Tryz.prog 118 #[v] w fun e w' => ∃ v', e = .returned v' ∧ NumAt w v' (N3.val l) ∧ w = w' := by
  obtain ⟨a, cp, rfl, h1, h2⟩ := hv.len
  rw [castL_len] at h1 ⊢
  unfold maxLen at h2
  have HV := Lib.hid hv
  clear hv
  go_enter Tryz.func118, Tryz.ntmps118
  go_wp2
  go_loopw [0] (fun u0 wr => ∃ k : Nat, k ≤ l.length ∧ u0 = .slice a k cp ∧ (∀ j, k ≤ j → l.getD j 0 = 0) ∧ w = wr) (fun u0 _ => match u0 with | .slice _ k _ => k | _ => 0)
  case atStart => exact ⟨l.length, Nat.le_refl _, rfl, fun j hj => by rw [List.getD_eq_getElem?_getD, List.getElem?_eq_none hj]; rfl, rfl⟩
  case round =>
    obtain ⟨k, hk, rfl, hz, rfl⟩ := hrel
    have HZ := Lib.hid hz
    clear hz
    by_cases h0 : 0 < k
    · obtain ⟨b, off, rfl, hc⟩ := HV.out.get (castL_get (show k - 1 < l.length by omega))
      have hw1 : IntKind.i64.wrap ((k : Int) - 1) = ((k - 1 : Nat) : Int) := by rw [IntKind.wrap_i64]; omega
      have hki : (0 : Int) ≤ ((k - 1 : Nat) : Int) ∧ ((k - 1 : Nat) : Int) < (k : Int) := by omega
      have hkc : (0 : Int) ≤ ((k - 1 : Nat) : Int) ∧ ((k - 1 : Nat) : Int) ≤ (cp : Int) := by omega
      by_cases hx : l.getD (k - 1) 0 = 0
      · rw [hx] at hc
        have HX := Lib.hid hx
        clear hx
        go_wp2
        go_roundw
        case rel =>
          refine ⟨k - 1, by omega, rfl, fun j hj => ?_, trivial⟩
          by_cases e : j = k - 1
          · rw [e]; exact HX.out
          · exact HZ.out j (by omega)
        case measure => simp; omega
      · have q : (((l.getD (k - 1) 0 : Nat) : Int) == 0) = false := beq_eq_false_iff_ne.2 (by omega)
        have HX := Lib.hid hx
        have hres : NumAt w (.slice (some ⟨b, off, none⟩) k cp) (N3.val l) := by
          unfold NumAt
          rw [← N3.trim_eq hok hk HZ.out (.inr HX.out), ← castL_take]
          have h3 := HV.out
          rw [castL_len] at h3
          exact SliceOf.take h3 (by rw [castL_len]; exact hk)
        generalize l.getD (k - 1) 0 = y at hc q
        go_wp2
        go_ret
        exact ⟨_, rfl, hres, rfl⟩
    · obtain rfl : k = 0 := by omega
      have hres : NumAt w (.slice a 0 cp) (N3.val l) := by
        unfold NumAt
        rw [← N3.trim_eq hok hk HZ.out (.inl rfl), ← castL_take]
        have h3 := HV.out
        rw [castL_len] at h3
        exact SliceOf.take h3 (Nat.zero_le _)
      go_wp2
      go_ret
      exact ⟨_, rfl, hres, rfl⟩
end Go.Proofs.YtjnpenljgfdaiaaGreatDoor
