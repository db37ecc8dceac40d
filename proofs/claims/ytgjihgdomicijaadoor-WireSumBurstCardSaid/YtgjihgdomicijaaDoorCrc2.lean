/- Plain mathematics of the checksum: a changed bit, a burst of changed bits, the sum of three strings. -/
import Derived.Test.YtgjihgdomicijaaDoorCrc
namespace Go.Proofs.YtgjihgdomicijaaDoor

theorem bs_zero {r : Nat} (h : r < 4294967296) (h0 : bs r = 0) : r = 0 := by
  unfold bs at h0
  split at h0
  · exfalso
    have h1 : r / 2 = 2197175160 := by
      have := congrArg (fun x => x ^^^ 2197175160) h0
      simpa [Nat.xor_assoc] using this
    omega
  · omega
theorem bsN_zero : ∀ (n r : Nat), r < 4294967296 → bsN n r = 0 → r = 0 := by
  intro n
  induction n with
  | zero => intro r _ h; exact h
  | succ n ih => intro r h h0; exact bs_zero h (ih _ (bs_lt r h) h0)
theorem bsN_of_zero : ∀ n, bsN n 0 = 0 := by
  intro n
  induction n with
  | zero => rfl
  | succ n ih => simp only [bsN]; rw [show bs 0 = 0 from by decide]; exact ih
theorem bsN_pow (n i : Nat) : bsN (n + i) (2 ^ i) = bsN n 1 := by
  induction i with
  | zero => rfl
  | succ i ih =>
    rw [show n + (i + 1) = (n + i) + 1 by omega]
    simp only [bsN]
    rw [Nat.pow_succ, Nat.mul_comm, bs_even, ih]
theorem crcB_xor (r d b : Nat) : crcB (r ^^^ d) b = crcB r b ^^^ bsN 8 d := by
  unfold crcB
  rw [Nat.xor_assoc, Nat.xor_comm d b, ← Nat.xor_assoc, bsN_xor]
theorem crcL_xor : ∀ (l : List Nat) (r d : Nat), crcL (r ^^^ d) l = crcL r l ^^^ bsN (8 * l.length) d := by
  intro l
  induction l with
  | nil => intro r d; simp [crcL, bsN]
  | cons x l ih =>
    intro r d
    show crcL (crcB (r ^^^ d) x) l = crcL (crcB r x) l ^^^ _
    rw [crcB_xor, ih, ← bsN_add]
    simp only [List.length_cons]
    rw [show 8 + 8 * l.length = 8 * (l.length + 1) by omega]
/-- One bit of one byte is changed. -/
theorem crcL_flip (r : Nat) (l : List Nat) (p j : Nat) (hp : p < l.length) (hj : j < 8) :
    crcL r (l.set p (l.getD p 0 ^^^ 2 ^ j)) = crcL r l ^^^ bsN (8 * l.length - (8 * p + j)) 1 := by
  obtain ⟨pre, x, post, rfl, rfl⟩ : ∃ pre x post, l = pre ++ x :: post ∧ p = pre.length :=
    ⟨l.take p, l[p], l.drop (p + 1), by rw [List.getElem_cons_drop, List.take_append_drop], by simp; omega⟩
  have e1 : (pre ++ x :: post).getD pre.length 0 = x := by simp [List.getD]
  have e2 : (pre ++ x :: post).set pre.length (x ^^^ 2 ^ j) = pre ++ (x ^^^ 2 ^ j) :: post := by simp
  rw [e1, e2]
  have h3 : ∀ y, crcL r (pre ++ y :: post) = crcL (crcB (crcL r pre) y) post := fun y => by simp [crcL]
  rw [h3, h3]
  have h4 : crcB (crcL r pre) (x ^^^ 2 ^ j) = crcB (crcL r pre) x ^^^ bsN (8 - j) 1 := by
    unfold crcB
    rw [← Nat.xor_assoc, bsN_xor]
    congr 1
    have := bsN_pow (8 - j) j
    rwa [show 8 - j + j = 8 by omega] at this
  rw [h4, crcL_xor, ← bsN_add]
  congr 2
  simp only [List.length_append, List.length_cons]
  omega
theorem mod_pow_succ (x i : Nat) (h : x / 2 ^ i % 2 = 1) : x % 2 ^ (i + 1) = (x % 2 ^ i) ^^^ 2 ^ i ∧ x % 2 ^ (i + 1) ≠ 0 := by
  have h1 : x % 2 ^ (i + 1) = 2 ^ i * 1 + x % 2 ^ i := by
    rw [Nat.pow_succ, Nat.mod_mul, h]; omega
  have hp : 0 < 2 ^ i := Nat.two_pow_pos i
  refine ⟨?_, by omega⟩
  rw [h1, Nat.two_pow_add_eq_or_of_lt (Nat.mod_lt _ hp) 1]
  apply Nat.eq_of_testBit_eq
  intro k
  rw [Nat.testBit_or, Nat.testBit_xor, Nat.mul_one, Nat.testBit_two_pow]
  by_cases hk : i = k
  · subst hk
    rw [Nat.testBit_mod_two_pow]
    simp
  · simp [hk]
theorem mod_pow_same (x i : Nat) (h : x / 2 ^ i % 2 = 0) : x % 2 ^ (i + 1) = x % 2 ^ i := by
  rw [Nat.pow_succ, Nat.mod_mul, h]; omega

theorem xor_swap (a b c x y z : Nat) : a ^^^ b ^^^ c ^^^ (x ^^^ y ^^^ z) = a ^^^ x ^^^ (b ^^^ y) ^^^ (c ^^^ z) := by
  apply Nat.eq_of_testBit_eq
  intro k
  simp only [Nat.testBit_xor]
  cases a.testBit k <;> cases b.testBit k <;> cases c.testBit k <;> cases x.testBit k <;> cases y.testBit k <;> cases z.testBit k <;> rfl
theorem crcL_xor3 : ∀ (a b c : List Nat) (r1 r2 r3 : Nat), a.length = b.length → b.length = c.length →
    crcL (r1 ^^^ r2 ^^^ r3) (List.zipWith (fun x y => x ^^^ y) (List.zipWith (fun x y => x ^^^ y) a b) c) = crcL r1 a ^^^ crcL r2 b ^^^ crcL r3 c := by
  intro a
  induction a with
  | nil =>
    intro b c r1 r2 r3 h1 h2
    obtain rfl : b = [] := List.length_eq_zero_iff.1 h1.symm
    obtain rfl : c = [] := List.length_eq_zero_iff.1 h2.symm
    rfl
  | cons x a ih =>
    intro b c r1 r2 r3 h1 h2
    match b, c, h1, h2 with
    | y :: b, z :: c, h1, h2 =>
      show crcL (crcB (r1 ^^^ r2 ^^^ r3) (x ^^^ y ^^^ z)) _ = crcL (crcB r1 x) a ^^^ crcL (crcB r2 y) b ^^^ crcL (crcB r3 z) c
      rw [← ih b c _ _ _ (by simpa using h1) (by simpa using h2)]
      congr 1
      unfold crcB
      rw [← bsN_xor, ← bsN_xor]
      congr 1
      exact xor_swap r1 r2 r3 x y z
end Go.Proofs.YtgjihgdomicijaaDoor
