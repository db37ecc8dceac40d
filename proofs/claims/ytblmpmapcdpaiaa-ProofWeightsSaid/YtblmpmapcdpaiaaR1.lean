/- nadirref23: total, bounded, row. -/
import Derived.Test.YtblmpmapcdpaiaaL4
namespace Go.Proofs.Ytblmpmapcdpaiaa
open Go.RowKit Lib

set_option maxRecDepth 100000 in
set_option maxHeartbeats 2000000 in
theorem total_any (v : Value) (l : List Int) (set : Nat) (w : World) (hv : IntsAt w v l) (hl : l.length ≤ 60) (hc : coefOK l = true) :
    Calls Try.prog 64 #[v, .int .i64 set] w fun e w' => e = .returned (.int .i64 (ch l set)) ∧ Below w.heap.size w w' := by
  have HV := Lib.hid hv
  have HC := Lib.hid hc
  obtain ⟨a, cap, rfl, h1, h2⟩ := hv.len
  unfold maxLen at h2
  have hch : Hid (ch l set = chK l set l.length) := rfl
  rw [hch.out]
  clear hv hc
  go_enter Try.func64, Try.ntmps64
  go_wp2
  go_loopw [5, 6] (fun u5 u6 wr => ∃ i : Nat, i ≤ l.length ∧ u6 = .int .i64 i ∧ u5 = .int .i64 (chK l set i) ∧ Below w.heap.size w wr) (fun _ u6 _ => (l.length - intOf u6).toNat)
  case atStart => exact ⟨0, by omega, rfl, rfl, Below.refl _ _⟩
  case round =>
    obtain ⟨i, hi, rfl, rfl, hB⟩ := hrel
    by_cases him : i < l.length
    · obtain ⟨gb, go, rfl, hcell⟩ := (HV.out.below hB).get (getD_some 0 him)
      obtain ⟨c0, c1⟩ := coefOK_get HC.out i
      obtain ⟨s0, s1⟩ := chK_bd (M := 1000000000) (by omega) (coefOK_get HC.out) set i
      have hi64 : (i : Int) < 64 := by omega
      have hii : (0 : Int) ≤ (i : Int) ∧ (i : Int) < (l.length : Int) := by omega
      have HS : Hid (chK l set (i + 1) = chK l set i + if bitOn set i then l.getD i 0 else 0) := rfl
      have hz := shr_bit set i
      generalize l.getD i 0 = x at hcell c0 c1 HS
      generalize chK l set i = sm at s0 s1 HS ⊢
      cases hb : bitOn set i with
      | true =>
        rw [hb] at hz HS
        obtain ⟨z1, z2, z3⟩ := hz
        have HS' : Hid (chK l set (i + 1) = sm + x) := HS.out
        have hwx : IntKind.i64.wrap x = x := wrapS _ (by omega) (by omega)
        have hws : IntKind.i64.wrap (sm + x) = sm + x := wrapS _ (by omega) (by omega)
        clear hb HS
        go_wp2_with fail
        go_quiet (fail)
        go_wp2
        go_roundw
        case rel => exact ⟨i + 1, by omega, by go_num, by rw [HS'.out], by exact below_drewN hB _⟩
        case measure => simp [intOf]; omega
      | false =>
        rw [hb] at hz HS
        obtain ⟨z1, z2, z3⟩ := hz
        have HS' : Hid (chK l set (i + 1) = sm) := Lib.hid (by have := HS.out; simpa using this)
        have hws : IntKind.i64.wrap sm = sm := wrapS _ (by omega) (by omega)
        clear hb HS
        go_wp2_with fail
        go_quiet (fail)
        go_wp2
        go_roundw
        case rel => exact ⟨i + 1, by omega, by go_num, by rw [HS'.out], by exact below_drewN hB _⟩
        case measure => simp [intOf]; omega
    · obtain rfl : i = l.length := by omega
      go_wp2
      go_ret
      exact ⟨rfl, hB⟩

def okN (n : Int) : Bool := decide (-1000000000 ≤ n) && decide (n ≤ 1000000000)
theorem coefOK_take {l : List Int} {k : Nat} (h : k < l.length) : coefOK (l.take (k + 1)) = (coefOK (l.take k) && okN (l.getD k 0)) := by
  unfold coefOK okN
  rw [List.take_add_one, getD_some 0 h, List.all_append]; simp
theorem coefOK_bad {l : List Int} {k : Nat} (h : k < l.length) (hb : okN (l.getD k 0) = false) : coefOK l = false := by
  unfold coefOK
  rw [List.all_eq_false]
  refine ⟨l.getD k 0, List.mem_of_getElem? (getD_some 0 h), ?_⟩
  unfold okN at hb
  rw [hb]; decide
set_option maxRecDepth 100000 in
set_option maxHeartbeats 1000000 in
theorem bounded_any (v : Value) (l : List Int) (w : World) (hv : IntsAt w v l) : Calls Try.prog 73 #[v] w fun e w' => e = .returned (.bool (coefOK l)) ∧ w = w' := by
  have HV := Lib.hid hv
  obtain ⟨a, cap, rfl, h1, h2⟩ := hv.len
  unfold maxLen at h2
  have HT : Hid (l.take l.length = l) := List.take_length
  clear hv
  obtain ⟨ob, hob⟩ : ∃ b, Hid (b = coefOK l) := ⟨_, Lib.hid rfl⟩
  rw [← hob.out]
  go_enter Try.func73, Try.ntmps73
  go_wp2
  go_loop [3] (fun u3 => ∃ k : Nat, k ≤ l.length ∧ u3 = .int .i64 k ∧ Hid (coefOK (l.take k) = true)) (fun u3 => (l.length - intOf u3).toNat)
  case atStart => exact ⟨0, by omega, rfl, Lib.hid rfl⟩
  case round =>
    obtain ⟨k, hk, rfl, hok⟩ := hrel
    by_cases hkl : k < l.length
    · obtain ⟨b, off, rfl, hcell⟩ := HV.out.get (getD_some 0 hkl)
      have hstep := Lib.hid (coefOK_take hkl)
      have hbad := Lib.hid (fun h => coefOK_bad hkl h)
      generalize l.getD k 0 = x at hcell hstep hbad
      by_cases hx1 : x < -1000000000
      · have hf : ob = false := hob.out.trans (hbad.out (by unfold okN; simp; omega))
        subst hf
        go_wp2
        go_ret
        exact ⟨rfl, rfl⟩
      · by_cases hx2 : 1000000000 < x
        · have hf : ob = false := hob.out.trans (hbad.out (by unfold okN; simp; omega))
          subst hf
          go_wp2
          go_ret
          exact ⟨rfl, rfl⟩
        · have hn : Hid (coefOK (l.take (k + 1)) = true) := Lib.hid (by rw [hstep.out, hok.out]; unfold okN; simp; omega)
          go_wp2
          exact ⟨⟨k + 1, by omega, by go_num, hn⟩, by simp [intOf]; omega⟩
    · obtain rfl : k = l.length := by omega
      have ht : ob = true := hob.out.trans (by have := hok.out; rwa [HT.out] at this)
      subst ht
      go_wp2
      go_ret
      exact ⟨rfl, rfl⟩
end Go.Proofs.Ytblmpmapcdpaiaa
