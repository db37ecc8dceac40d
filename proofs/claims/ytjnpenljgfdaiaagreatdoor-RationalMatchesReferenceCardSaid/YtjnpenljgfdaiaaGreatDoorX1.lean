/- package integer: Valid, FromInt, Add, Sub, Compare. -/
import Derived.Test.YtjnpenljgfdaiaaGreatDoorV6
namespace Go.Proofs.YtjnpenljgfdaiaaGreatDoor
open Go.RowKit Go.Shelf Lib

theorem lim_pow : N3.lim = 10000 ^ 50 := by
  unfold N3.lim
  rw [show (10000 : Nat) = 10 ^ 4 from rfl, ← Nat.pow_mul]
theorem len_lim {n : Nat} (h : n < N3.lim) : (N3.toG n).length ≤ 50 := N3.toG_len_le (by rw [← lim_pow]; exact h)
theorem sgn_lt {b : Bool} {n : Nat} {s : ByteArray} (h : N3.sgn b n = N3.iV s) (hs : N3.okS s = true) : n < N3.lim := by
  have := N3.iV_lim hs
  rw [← h, N3.sgn_abs] at this
  exact this
theorem ok2_split {a b : ByteArray} (h : N3.ok2 a b = true) : N3.okS a = true ∧ N3.okS b = true := by unfold N3.ok2 at h; simpa using h
theorem len_two {n : Nat} (h : n < 10000 * N3.lim) : (N3.toG n).length ≤ 51 := N3.toG_len_le (by rw [lim_pow] at h; rw [Nat.pow_succ]; omega)
theorem valid_f (s : ByteArray) (w : World) (hs : s.size ≤ 9223372036854775807) :
    Calls Tryz.prog 39 #[.string s] w fun e w' => e = .returned (.bool (N3.okS s)) ∧ Below w.heap.size w w' := by
  have h := Lib.hid (isValid_any s w hs)
  go_enter Tryz.func39, Tryz.ntmps39
  go_wp2_with fail
  refine h.out.mono ?_
  rintro e w' ⟨rfl, hB⟩
  go_wp2
  go_ret
  exact ⟨rfl, hB⟩
theorem fromInt_f (n : Int) (h0 : -9223372036854775808 ≤ n) (h1 : n ≤ 9223372036854775807) (w : World) (he : EnvW w) :
    Calls Tryz.prog 55 #[.int .i64 n] w fun e w' => e = .returned (.string (N3.S n)) ∧ Below w.heap.size w w' := by
  have h := Lib.hid (itoa_any n h0 h1 w he)
  clear he
  go_enter Tryz.func55, Tryz.ntmps55
  go_wp2_with fail
  refine h.out.mono ?_
  rintro e w' ⟨rfl, hB⟩
  go_wp2
  go_ret
  exact ⟨rfl, hB⟩
set_option maxRecDepth 100000 in
set_option maxHeartbeats 1000000 in
theorem add_f (a b : ByteArray) (w : World) (ha : a.size ≤ 9223372036854775807) (hb : b.size ≤ 9223372036854775807) (he : EnvW w) :
    Calls Tryz.prog 34 #[.string a, .string b] w fun e w' => e = .returned (.tuple #[.string (N3.outS (N3.addO a b)), .int .i64 (N3.outE (N3.addO a b))]) ∧ Below w.heap.size w w' := by
  unfold N3.addO
  cases hk : N3.ok2 a b with
  | false =>
    have h := Lib.hid (both_bad a b w ha hb hk)
    clear he hk
    go_enter Tryz.func34, Tryz.ntmps34
    go_wp2_with fail
    refine h.out.mono ?_
    rintro e w' ⟨rfl, hB⟩
    go_wp2
    go_ret2
    exact ⟨rfl, (hB.alloc hB.size _).alloc (by have := hB.size; simp; omega) _⟩
  | true =>
    have h := Lib.hid (both_ok a b w ha hb hk)
    obtain ⟨o1, o2⟩ := ok2_split hk
    rw [if_pos rfl]
    have HK := Lib.hid hk
    have HE := Lib.hid he
    clear hk he
    go_enter Tryz.func34, Tryz.ntmps34
    go_wp2_with fail
    refine h.out.mono ?_
    rintro e W1 ⟨b1, a1, n1, c1, b2, a2, n2, c2, rfl, hn1, hn2, hs1, hs2, -, -, hB1⟩
    have z1 := sgn_lt hs1 o1
    have z2 := sgn_lt hs2 o2
    have hBa : Below W1.heap.size W1 ((W1.alloc (.cells #[.bool b1, .slice a1 (N3.toG n1).length c1] 90)).alloc (.cells #[.bool b2, .slice a2 (N3.toG n2).length c2] 90)) := ((Below.refl _ _).alloc (Nat.le_refl _) _).alloc (by simp) _
    have hp := splus_any b1 b2 _ _ n1 n2 _ (SliceOf.below hn1 hBa) (SliceOf.below hn2 hBa) (by have := len_lim z1; omega) (by have := len_lim z2; omega)
    have HP := Lib.hid hp
    have HR := Lib.hid (show N3.sgn b1 n1 + N3.sgn b2 n2 = N3.iV a + N3.iV b by rw [hs1, hs2])
    have hab1 := N3.sgn_abs b1 n1
    have hab2 := N3.sgn_abs b2 n2
    clear hp hn1 hn2 hs1 hs2
    go_wp2_with fail
    refine HP.out.mono ?_
    rintro e W2 ⟨b3, v3, k, rfl, hn3, hs3, hB3⟩
    have hk : k < 10000 * N3.lim := by
      have h4 := N3.sgn_abs b3 k
      rw [hs3] at h4
      omega
    have ht := text_any b3 v3 k W2 hn3 (by have := len_two hk; omega) ((HE.out.below hB1).below (hBa.trans (hB3.mono hBa.size)))
    rw [hs3, HR.out] at ht
    have HT := Lib.hid ht
    clear ht
    go_wp2_with fail
    refine HT.out.mono ?_
    rintro e W3 ⟨rfl, hB4⟩
    have hBx := hB1.trans ((hBa.trans (hB3.mono hBa.size)).mono hB1.size)
    go_wp2_with fail
    go_ret2
    exact ⟨rfl, hBx.trans (hB4.mono hBx.size)⟩
set_option maxRecDepth 100000 in
set_option maxHeartbeats 1000000 in
theorem sub_f (a b : ByteArray) (w : World) (ha : a.size ≤ 9223372036854775807) (hb : b.size ≤ 9223372036854775807) (he : EnvW w) :
    Calls Tryz.prog 36 #[.string a, .string b] w fun e w' => e = .returned (.tuple #[.string (N3.outS (N3.subO a b)), .int .i64 (N3.outE (N3.subO a b))]) ∧ Below w.heap.size w w' := by
  unfold N3.subO
  cases hk : N3.ok2 a b with
  | false =>
    have h := Lib.hid (both_bad a b w ha hb hk)
    clear he hk
    go_enter Tryz.func36, Tryz.ntmps36
    go_wp2_with fail
    refine h.out.mono ?_
    rintro e w' ⟨rfl, hB⟩
    go_wp2
    go_ret2
    exact ⟨rfl, (hB.alloc hB.size _).alloc (by have := hB.size; simp; omega) _⟩
  | true =>
    have h := Lib.hid (both_ok a b w ha hb hk)
    obtain ⟨o1, o2⟩ := ok2_split hk
    rw [if_pos rfl]
    have HK := Lib.hid hk
    have HE := Lib.hid he
    clear hk he
    go_enter Tryz.func36, Tryz.ntmps36
    go_wp2_with fail
    refine h.out.mono ?_
    rintro e W1 ⟨b1, a1, n1, c1, b2, a2, n2, c2, rfl, hn1, hn2, hs1, hs2, -, -, hB1⟩
    have z1 := sgn_lt hs1 o1
    have z2 := sgn_lt hs2 o2
    have hBa : Below W1.heap.size W1 ((W1.alloc (.cells #[.bool b1, .slice a1 (N3.toG n1).length c1] 90)).alloc (.cells #[.bool (!b2), .slice a2 (N3.toG n2).length c2] 90)) := ((Below.refl _ _).alloc (Nat.le_refl _) _).alloc (by simp) _
    have hp := splus_any b1 (!b2) _ _ n1 n2 _ (SliceOf.below hn1 hBa) (SliceOf.below hn2 hBa) (by have := len_lim z1; omega) (by have := len_lim z2; omega)
    have HP := Lib.hid hp
    have HR := Lib.hid (show N3.sgn b1 n1 + N3.sgn (!b2) n2 = N3.iV a - N3.iV b by rw [← N3.sgn_neg, hs1, hs2]; omega)
    have hab1 := N3.sgn_abs b1 n1
    have hab2 := N3.sgn_abs (!b2) n2
    clear hp hn1 hn2 hs1 hs2
    go_wp2_with fail
    refine HP.out.mono ?_
    rintro e W2 ⟨b3, v3, k, rfl, hn3, hs3, hB3⟩
    have hk : k < 10000 * N3.lim := by
      have h4 := N3.sgn_abs b3 k
      rw [hs3] at h4
      omega
    have ht := text_any b3 v3 k W2 hn3 (by have := len_two hk; omega) ((HE.out.below hB1).below (hBa.trans (hB3.mono hBa.size)))
    rw [hs3, HR.out] at ht
    have HT := Lib.hid ht
    clear ht
    go_wp2_with fail
    refine HT.out.mono ?_
    rintro e W3 ⟨rfl, hB4⟩
    have hBx := hB1.trans ((hBa.trans (hB3.mono hBa.size)).mono hB1.size)
    go_wp2_with fail
    go_ret2
    exact ⟨rfl, hBx.trans (hB4.mono hBx.size)⟩
set_option maxRecDepth 100000 in
set_option maxHeartbeats 1000000 in
theorem compare_f (a b : ByteArray) (w : World) (ha : a.size ≤ 9223372036854775807) (hb : b.size ≤ 9223372036854775807) :
    Calls Tryz.prog 38 #[.string a, .string b] w fun e w' => e = .returned (.int .i64 (N3.cmpS a b)) ∧ Below w.heap.size w w' := by
  unfold N3.cmpS
  cases hk : N3.ok2 a b with
  | false =>
    have h := Lib.hid (both_bad a b w ha hb hk)
    rw [if_neg (by decide)]
    clear hk
    go_enter Tryz.func38, Tryz.ntmps38
    go_wp2_with fail
    refine h.out.mono ?_
    rintro e w' ⟨rfl, hB⟩
    go_wp2
    go_ret
    exact ⟨rfl, (hB.alloc hB.size _).alloc (by have := hB.size; simp; omega) _⟩
  | true =>
    have h := Lib.hid (both_ok a b w ha hb hk)
    obtain ⟨o1, o2⟩ := ok2_split hk
    rw [if_pos rfl]
    clear hk
    go_enter Tryz.func38, Tryz.ntmps38
    go_wp2_with fail
    refine h.out.mono ?_
    rintro e W1 ⟨b1, a1, n1, c1, b2, a2, n2, c2, rfl, hn1, hn2, hs1, hs2, hz1, hz2, hB1⟩
    have z1 := sgn_lt hs1 o1
    have z2 := sgn_lt hs2 o2
    have hBa : Below W1.heap.size W1 ((W1.alloc (.cells #[.bool b1, .slice a1 (N3.toG n1).length c1] 90)).alloc (.cells #[.bool b2, .slice a2 (N3.toG n2).length c2] 90)) := ((Below.refl _ _).alloc (Nat.le_refl _) _).alloc (by simp) _
    have hc1 := Lib.hid (compare_any (.slice a1 (N3.toG n1).length c1) (.slice a2 (N3.toG n2).length c2) n1 n2 _ (SliceOf.below hn1 hBa) (SliceOf.below hn2 hBa) (by have := len_lim z1; omega))
    have hc2 := Lib.hid (compare_any (.slice a2 (N3.toG n2).length c2) (.slice a1 (N3.toG n1).length c1) n2 n1 _ (SliceOf.below hn2 hBa) (SliceOf.below hn1 hBa) (by have := len_lim z2; omega))
    have hBx := hB1.trans (hBa.mono hB1.size)
    have hx1 := hz1
    have hx2 := hz2
    clear hn1 hn2
    generalize hcc : N3.cmpI (n1 : Int) (n2 : Int) = cc at hc1
    generalize hcd : N3.cmpI (n2 : Int) (n1 : Int) = cd at hc2
    cases b1 with
    | true =>
      cases b2 with
      | true =>
        have HR := Lib.hid (show N3.cmpI (N3.iV a) (N3.iV b) = cd by rw [← hs1, ← hs2, ← hcd]; unfold N3.sgn N3.cmpI; simp)
        clear hs1 hs2 hcc hcd hz1 hz2 hx1 hx2
        go_wp2_with fail
        refine hc2.out.mono ?_
        rintro e W2 ⟨rfl, hB2⟩
        go_wp2_with fail
        go_ret
        exact ⟨by rw [HR.out]; rfl, hBx.trans (hB2.mono hBx.size)⟩
      | false =>
        have HR := Lib.hid (show N3.cmpI (N3.iV a) (N3.iV b) = -1 by
          have := hz1 rfl
          rw [← hs1, ← hs2]; unfold N3.sgn N3.cmpI; simp; omega)
        clear hs1 hs2 hcc hcd hz1 hz2 hx1 hx2
        go_wp2_with fail
        go_ret
        exact ⟨by rw [HR.out]; rfl, hBx⟩
    | false =>
      cases b2 with
      | true =>
        have HR := Lib.hid (show N3.cmpI (N3.iV a) (N3.iV b) = 1 by
          have := hz2 rfl
          rw [← hs1, ← hs2]; unfold N3.sgn N3.cmpI; simp; omega)
        clear hs1 hs2 hcc hcd hz1 hz2 hx1 hx2
        go_wp2_with fail
        go_ret
        exact ⟨by rw [HR.out]; rfl, hBx⟩
      | false =>
        have HR := Lib.hid (show N3.cmpI (N3.iV a) (N3.iV b) = cc by rw [← hs1, ← hs2, ← hcc]; rfl)
        clear hs1 hs2 hcc hcd hz1 hz2 hx1 hx2
        go_wp2_with fail
        refine hc1.out.mono ?_
        rintro e W2 ⟨rfl, hB2⟩
        go_wp2_with fail
        go_ret
        exact ⟨by rw [HR.out]; rfl, hBx.trans (hB2.mono hBx.size)⟩
end Go.Proofs.YtjnpenljgfdaiaaGreatDoor
