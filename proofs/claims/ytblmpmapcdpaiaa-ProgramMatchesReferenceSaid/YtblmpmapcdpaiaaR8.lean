/- nadirref23: least. -/
import Derived.Test.YtblmpmapcdpaiaaR2
namespace Go.Proofs.Ytblmpmapcdpaiaa
open Go.RowKit Lib

set_option maxRecDepth 100000 in
set_option maxHeartbeats 4000000 in
theorem least_ref (v : Value) (r : RowD) (d s : Nat) (w : World) (hv : RowV w v r) (hl : r.coef.length ≤ 60) (hc : coefOK r.coef = true) :
    Calls Try.prog 93 #[v, .int .i64 d, .int .i64 s] w fun e w' => e = .returned (.int .i64 (ls r.coef d s)) ∧ Below w.heap.size w w' := by
  obtain ⟨vc, rfl, hvc⟩ := hv
  have hB0 : Below w.heap.size w (w.alloc (.cells #[.int .i64 r.kind, .int .i64 r.a, .int .i64 r.b, .int .i64 r.at_, vc, .int .i64 r.most] 26)) := (Below.refl _ _).alloc (Nat.le_refl _) _
  have kr := Blk.new w #[.int .i64 r.kind, .int .i64 r.a, .int .i64 r.b, .int .i64 r.at_, vc, .int .i64 r.most] 26
  have HV := Lib.hid (hvc.below hB0)
  have HC := Lib.hid hc
  obtain ⟨ca, cc, rfl, hc1, hc2⟩ := hvc.len
  unfold maxLen at hc2
  have hls : Hid (ls r.coef d s = lsK r.coef d s r.coef.length) := rfl
  rw [hls.out]
  clear hvc hc
  go_enter Try.func93, Try.ntmps93
  go_wp2
  generalize hX : w.alloc (.cells #[.int .i64 r.kind, .int .i64 r.a, .int .i64 r.b, .int .i64 r.at_, .slice ca r.coef.length cc, .int .i64 r.most] 26) = X at HV hB0 kr ⊢
  go_loopw [7, 8] (fun u7 u8 wr => ∃ i : Nat, i ≤ r.coef.length ∧ u8 = .int .i64 i ∧ u7 = .int .i64 (lsK r.coef d s i) ∧ Below X.heap.size X wr) (fun _ u8 _ => (r.coef.length - intOf u8).toNat)
  case atStart => exact ⟨0, by omega, rfl, rfl, Below.refl _ _⟩
  case round =>
    obtain ⟨i, hi, rfl, rfl, hB⟩ := hrel
    have kri := kr.below hB kr.lt
    have a4 := kri.cell 4
    simp only [List.getElem?_toArray, List.getElem?_cons_succ, List.getElem?_cons_zero] at a4
    by_cases him : i < r.coef.length
    · obtain ⟨gb, go, rfl, hcell⟩ := (HV.out.below hB).get (getD_some 0 him)
      obtain ⟨c0, c1⟩ := coefOK_get HC.out i
      obtain ⟨s0, s1⟩ := lsK_bd (M := 1000000000) (by omega) (coefOK_get HC.out) d s i
      have hi64 : (i : Int) < 64 := by omega
      have hii : (0 : Int) ≤ (i : Int) ∧ (i : Int) < (r.coef.length : Int) := by omega
      have HS : Hid (lsK r.coef d s (i + 1) = lsK r.coef d s i + if i < d then (if bitOn s i then r.coef.getD i 0 else 0) else min 0 (r.coef.getD i 0)) := rfl
      have hz := shr_bit s i
      generalize r.coef.getD i 0 = x at hcell c0 c1 HS
      generalize lsK r.coef d s i = sm at s0 s1 HS ⊢
      by_cases hid : i < d
      · have hid2 : (i : Int) < (d : Int) := by omega
        have HS2 : Hid (lsK r.coef d s (i + 1) = sm + if bitOn s i then x else 0) := Lib.hid (by rw [HS.out, if_pos hid])
        clear HS
        cases hb : bitOn s i with
        | true =>
          rw [hb] at hz HS2
          obtain ⟨z1, z2, z3⟩ := hz
          have HS' : Hid (lsK r.coef d s (i + 1) = sm + x) := HS2.out
          have hwx : IntKind.i64.wrap x = x := wrapS _ (by omega) (by omega)
          have hws : IntKind.i64.wrap (sm + x) = sm + x := wrapS _ (by omega) (by omega)
          clear hb HS2
          go_wp2_with fail
          go_quiet (fail)
          go_wp2
          go_roundw
          case rel => exact ⟨i + 1, by omega, by go_num, by rw [HS'.out], by exact below_drewN hB _⟩
          case measure => simp [intOf]; omega
        | false =>
          rw [hb] at hz HS2
          obtain ⟨z1, z2, z3⟩ := hz
          have HS' : Hid (lsK r.coef d s (i + 1) = sm) := Lib.hid (by have := HS2.out; simpa using this)
          have hws : IntKind.i64.wrap sm = sm := wrapS _ (by omega) (by omega)
          clear hb HS2
          go_wp2_with fail
          go_quiet (fail)
          go_wp2
          go_roundw
          case rel => exact ⟨i + 1, by omega, by go_num, by rw [HS'.out], by exact below_drewN hB _⟩
          case measure => simp [intOf]; omega
      · have hid2 : ¬ ((i : Int) < (d : Int)) := by omega
        have HS2 : Hid (lsK r.coef d s (i + 1) = sm + min 0 x) := Lib.hid (by rw [HS.out, if_neg hid])
        clear HS hz
        by_cases hx : x < 0
        · have HS' : Hid (lsK r.coef d s (i + 1) = sm + x) := Lib.hid (by rw [HS2.out]; omega)
          have hws : IntKind.i64.wrap (sm + x) = sm + x := wrapS _ (by omega) (by omega)
          clear HS2
          go_wp2
          go_roundw
          case rel => exact ⟨i + 1, by omega, by go_num, by rw [HS'.out], hB⟩
          case measure => simp [intOf]; omega
        · have HS' : Hid (lsK r.coef d s (i + 1) = sm) := Lib.hid (by rw [HS2.out]; omega)
          clear HS2
          go_wp2
          go_roundw
          case rel => exact ⟨i + 1, by omega, by go_num, by rw [HS'.out], hB⟩
          case measure => simp [intOf]; omega
    · obtain rfl : i = r.coef.length := by omega
      go_wp2
      go_ret
      exact ⟨rfl, hB0.trans (hB.mono hB0.size)⟩
end Go.Proofs.Ytblmpmapcdpaiaa
