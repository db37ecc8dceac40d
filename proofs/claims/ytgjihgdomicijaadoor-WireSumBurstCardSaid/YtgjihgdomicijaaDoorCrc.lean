/- Plain mathematics of the checksum: the register as a number, the step of one bit, its linearity. -/
import Derived.Below
namespace Go.Proofs.YtgjihgdomicijaaDoor

def bs (r : Nat) : Nat := if r % 2 = 1 then (r / 2) ^^^ 2197175160 else r / 2
def bsN : Nat → Nat → Nat
  | 0, r => r
  | n + 1, r => bsN n (bs r)
def nibL : List Nat := [0, 274646895, 549293790, 820201905, 1098587580, 1361435347, 1640403810, 1905808397, 2197175160, 2460548119, 2722870694, 2987750089, 3280807620, 3553878443, 3811616794, 4084100981]
def nb (k : Nat) : Nat := nibL.getD k 0
def nstep (r : Nat) : Nat := (r / 16) ^^^ nb (r % 16)
def crcB (r b : Nat) : Nat := bsN 8 (r ^^^ b)
def crcL (r : Nat) (l : List Nat) : Nat := l.foldl crcB r

theorem xor_mod2 (a b : Nat) : (a ^^^ b) % 2 = (a % 2 + b % 2) % 2 := by
  have h := @Nat.xor_mod_two_eq_one a b
  omega
theorem xor_div2 (a b : Nat) : (a ^^^ b) / 2 = (a / 2) ^^^ (b / 2) := by
  have h := Nat.shiftRight_xor_distrib (a := a) (b := b) (i := 1)
  simpa [Nat.shiftRight_eq_div_pow] using h

theorem bs_xor (a b : Nat) : bs (a ^^^ b) = bs a ^^^ bs b := by
  unfold bs
  have h := xor_mod2 a b
  rw [xor_div2]
  rcases Nat.mod_two_eq_zero_or_one a with h1 | h1 <;> rcases Nat.mod_two_eq_zero_or_one b with h2 | h2
  · simp [h, h1, h2]
  · simp [h, h1, h2, Nat.xor_assoc]
  · simp [h, h1, h2]
    rw [Nat.xor_assoc, Nat.xor_comm (b / 2), Nat.xor_assoc]
  · simp [h, h1, h2]
    rw [Nat.xor_assoc, Nat.xor_comm 2197175160, Nat.xor_assoc]
    simp
theorem bsN_xor : ∀ (n a b : Nat), bsN n (a ^^^ b) = bsN n a ^^^ bsN n b := by
  intro n
  induction n with
  | zero => intro a b; rfl
  | succ n ih => intro a b; simp only [bsN, bs_xor, ih]
theorem bsN_add : ∀ (m n r : Nat), bsN (m + n) r = bsN n (bsN m r) := by
  intro m
  induction m with
  | zero => intro n r; simp [bsN]
  | succ m ih => intro n r; rw [show m + 1 + n = (m + n) + 1 by omega]; simp only [bsN, ih]

theorem bs_even (h : Nat) : bs (2 * h) = h := by unfold bs; rw [if_neg (by omega)]; omega
theorem bsN4_hi (h : Nat) : bsN 4 (16 * h) = h := by
  rw [show 16 * h = 2 * (2 * (2 * (2 * h))) by omega]
  simp only [bsN, bs_even]
theorem bsN4_lo : ∀ l : Nat, l < 16 → bsN 4 l = nb l := by decide
theorem split16 (r : Nat) : r = (16 * (r / 16)) ^^^ (r % 16) := by
  have h := Nat.two_pow_add_eq_or_of_lt (i := 4) (b := r % 16) (Nat.mod_lt _ (by decide)) (r / 16)
  have h2 : (16 * (r / 16)) ^^^ (r % 16) = 2 ^ 4 * (r / 16) + r % 16 := by
    rw [h]
    apply Nat.eq_of_testBit_eq
    intro i
    rw [Nat.testBit_xor, Nat.testBit_or]
    by_cases hi : i < 4
    · have : (2 ^ 4 * (r / 16)).testBit i = false := by rw [Nat.testBit_two_pow_mul]; simp; omega
      rw [show (16 * (r / 16)) = 2 ^ 4 * (r / 16) by rfl, this]; simp
    · have : (r % 16).testBit i = false := by
        rw [show (16 : Nat) = 2 ^ 4 by rfl, Nat.testBit_mod_two_pow]; simp; omega
      rw [this]; simp
  rw [h2]; omega
theorem nstep_eq (r : Nat) : nstep r = bsN 4 r := by
  conv => rhs; rw [split16 r]
  rw [bsN_xor, bsN4_hi, bsN4_lo _ (Nat.mod_lt _ (by decide))]
  rfl
theorem nstep2 (r : Nat) : nstep (nstep r) = bsN 8 r := by rw [nstep_eq, nstep_eq, ← bsN_add]

theorem bs_lt (r : Nat) (h : r < 4294967296) : bs r < 4294967296 := by
  unfold bs; split
  · exact Nat.xor_lt_two_pow (n := 32) (by omega) (by decide)
  · omega
theorem bsN_lt : ∀ (n r : Nat), r < 4294967296 → bsN n r < 4294967296 := by
  intro n
  induction n with
  | zero => intro r h; exact h
  | succ n ih => intro r h; exact ih _ (bs_lt r h)
theorem nb_lt (k : Nat) : nb k < 4294967296 := by
  unfold nb
  by_cases h : k < 16
  · have : ∀ k, k < 16 → nibL.getD k 0 < 4294967296 := by decide
    exact this k h
  · have : nibL.getD k 0 = 0 := by
      rw [List.getD_eq_getElem?_getD, List.getElem?_eq_none (by simp [nibL]; omega)]; rfl
    omega
theorem nstep_lt (r : Nat) (h : r < 4294967296) : nstep r < 4294967296 := by rw [nstep_eq]; exact bsN_lt 4 r h
theorem xor_lt32 (a b : Nat) (ha : a < 4294967296) (hb : b < 4294967296) : a ^^^ b < 4294967296 := Nat.xor_lt_two_pow (n := 32) ha hb
theorem crcL_lt : ∀ (l : List Nat) (r : Nat), r < 4294967296 → (∀ x ∈ l, x < 256) → crcL r l < 4294967296 := by
  intro l
  induction l with
  | nil => intro r h _; exact h
  | cons x l ih => intro r h hx; exact ih _ (bsN_lt 8 _ (xor_lt32 _ _ h (by have := hx x (by simp); omega))) (fun y hy => hx y (by simp [hy]))
theorem crcL_snoc (r : Nat) (l : List Nat) (x : Nat) : crcL r (l ++ [x]) = crcB (crcL r l) x := by simp [crcL]
end Go.Proofs.YtgjihgdomicijaaDoor
