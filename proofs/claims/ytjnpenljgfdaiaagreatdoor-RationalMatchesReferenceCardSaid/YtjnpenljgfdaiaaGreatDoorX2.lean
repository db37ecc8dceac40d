/- package integer: Mul, Div, Gcd. -/
import Derived.Test.YtjnpenljgfdaiaaGreatDoorX1
namespace Go.Proofs.YtjnpenljgfdaiaaGreatDoor
open Go.RowKit Go.Shelf Lib

theorem lim_sq {n m : Nat} (h1 : n < N3.lim) (h2 : m < N3.lim) : (N3.toG (n * m)).length ≤ 100 := by
  have q := len_mul n m
  have := len_lim h1
  have := len_lim h2
  omega
/-- Two numbers in memory, each in a block of its own. -/
theorem two_blocks {W1 : World} {b1 b2 : Bool} {v1 v2 : Value} : BlkT ((W1.alloc (.cells #[.bool b1, v1] 90)).alloc (.cells #[.bool b2, v2] 90)) W1.heap.size #[.bool b1, v1] 90 ∧ BlkT ((W1.alloc (.cells #[.bool b1, v1] 90)).alloc (.cells #[.bool b2, v2] 90)) (W1.heap.size + 1) #[.bool b2, v2] 90 :=
  ⟨(BlkT.newAt _ _ _ rfl).alloc _, BlkT.newAt _ _ _ (by simp)⟩
set_option maxRecDepth 100000 in
set_option maxHeartbeats 1000000 in
theorem mul_f (a b : ByteArray) (w : World) (ha : a.size ≤ 9223372036854775807) (hb : b.size ≤ 9223372036854775807) (he : EnvW w) :
    Calls Tryz.prog 35 #[.string a, .string b] w fun e w' => e = .returned (.tuple #[.string (N3.outS (N3.mulO a b)), .int .i64 (N3.outE (N3.mulO a b))]) ∧ Below w.heap.size w w' := by
  unfold N3.mulO
  cases hk : N3.ok2 a b with
  | false =>
    have h := Lib.hid (both_bad a b w ha hb hk)
    clear he hk
    go_enter Tryz.func35, Tryz.ntmps35
    go_wp2_with fail
    refine h.out.mono ?_
    rintro e w' ⟨rfl, hB⟩
    go_wp2
    go_ret2
    exact ⟨rfl, (hB.alloc hB.size _).alloc (by have := hB.size; simp; omega) _⟩
  | true =>
    have h := Lib.hid (both_ok a b w ha hb hk)
    obtain ⟨o1, o2⟩ := ok2_split hk
    rw [if_pos rfl]
    have HK := Lib.hid hk
    have HE := Lib.hid he
    clear hk he
    go_enter Tryz.func35, Tryz.ntmps35
    go_wp2_with fail
    refine h.out.mono ?_
    rintro e W1 ⟨b1, a1, n1, c1, b2, a2, n2, c2, rfl, hn1, hn2, hs1, hs2, -, -, hB1⟩
    have z1 := sgn_lt hs1 o1
    have z2 := sgn_lt hs2 o2
    have hBa : Below W1.heap.size W1 ((W1.alloc (.cells #[.bool b1, .slice a1 (N3.toG n1).length c1] 90)).alloc (.cells #[.bool b2, .slice a2 (N3.toG n2).length c2] 90)) := ((Below.refl _ _).alloc (Nat.le_refl _) _).alloc (by simp) _
    obtain ⟨k1, k2⟩ := two_blocks (W1 := W1) (b1 := b1) (b2 := b2) (v1 := .slice a1 (N3.toG n1).length c1) (v2 := .slice a2 (N3.toG n2).length c2)
    go_wp2_with fail
    generalize ((W1.alloc (.cells #[.bool b1, .slice a1 (N3.toG n1).length c1] 90)).alloc (.cells #[.bool b2, .slice a2 (N3.toG n2).length c2] 90)) = V at hBa k1 k2 ⊢
    have hBV := hB1.trans (hBa.mono hB1.size)
    have x1 := k1.cell 0
    have x2 := k1.cell 1
    have x3 := k2.cell 0
    have x4 := k2.cell 1
    simp at x1 x2 x3 x4
    have ht := Lib.hid (fun V' (hV : Below V.heap.size V V') => times_any (.slice a1 (N3.toG n1).length c1) (.slice a2 (N3.toG n2).length c2) n1 n2 V' (SliceOf.below hn1 (hBa.trans (hV.mono hBa.size))) (SliceOf.below hn2 (hBa.trans (hV.mono hBa.size))) (by have := len_lim z1; omega) (by have := len_lim z2; omega))
    have hx := Lib.hid (fun V' (hV : Below V.heap.size V V') v (hn : NumAt V' v (n1 * n2)) => by
      have q := text_any (!(b1 == b2)) v (n1 * n2) V' hn (by have := lim_sq z1 z2; omega) (HE.out.below (hBV.trans (hV.mono hBV.size)))
      rw [show N3.sgn (!(b1 == b2)) (n1 * n2) = N3.iV a * N3.iV b by rw [← hs1, ← hs2, N3.sgn_mul]; rfl] at q
      exact q)
    clear hn1 hn2 hs1 hs2
    go_region_held3 (fun w' => Below V.heap.size V w' ∧ w'.cell? ⟨W1.heap.size, 0, none⟩ = some (.bool b1) ∧ w'.cell? ⟨W1.heap.size, 1, none⟩ = some (.slice a1 (N3.toG n1).length c1) ∧ w'.cell? ⟨W1.heap.size + 1, 0, none⟩ = some (.bool b2) ∧ w'.cell? ⟨W1.heap.size + 1, 1, none⟩ = some (.slice a2 (N3.toG n2).length c2))
      (first | exact ⟨(Below.refl _ _).drew, x1, x2, x3, x4⟩ | exact keep_S4 (by assumption) (by assumption) | go_keep)
      (first
        | (go_at_call 87; (with_reducible refine (ht.out _ (‹Below V.heap.size V _ ∧ _›).1).mono ?_); rintro e w4 ⟨v4, rfl, hn4, hB4⟩; obtain ⟨a4, c4, rfl, q41, q42⟩ := (show IntsAt _ v4 _ from hn4).len)
        | (go_at_call 86; (with_reducible refine (hx.out _ (‹Below V.heap.size V _ ∧ _›).1 _ (by assumption)).mono ?_); rintro e w5 ⟨rfl, hB5⟩))
    all_goals (
      go_wp2_with fail
      go_ret2
      exact ⟨rfl, hBV.trans ((‹Below V.heap.size V _ ∧ _›).1.mono hBV.size)⟩)
end Go.Proofs.YtjnpenljgfdaiaaGreatDoor
