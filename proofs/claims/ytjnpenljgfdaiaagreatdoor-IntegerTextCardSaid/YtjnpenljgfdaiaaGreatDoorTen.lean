/- Plain: numbers as lists of digits (the reference's): their numeral, and what a numeral's digits are. -/
import Derived.Test.YtjnpenljgfdaiaaGreatDoorNum10
import Derived.Test.YtjnpenljgfdaiaaGreatDoorDec
namespace N3
open Go Go.Lib

def chr (d : Nat) : UInt8 := UInt8.ofNat (48 + d)
theorem ten_text (n : Nat) : n ≠ 0 → (D10.toG n).reverse.map chr = decDigits n := by
  induction n using Nat.strongRecOn with
  | _ n ih =>
    intro h
    rw [D10.toG_pos h, List.reverse_cons, List.map_append]
    by_cases h2 : n / 10 = 0
    · rw [h2, D10.toG_zero, decDigits_one (by omega : n < 10), show n % 10 = n by omega]; rfl
    · rw [ih (n / 10) (by omega) h2]
      conv => rhs; rw [decDigits, dif_neg (by omega)]
      rfl
/-- The digits of a numeral, the lowest one first. -/
def digs (l : List UInt8) : List Nat := l.reverse.map fun c => c.toNat - 48
theorem digs_val (l : List UInt8) : D10.val (digs l) = decV l := by
  refine snoc_rec (P := fun l => D10.val (digs l) = decV l) rfl (fun l c ih => ?_) l
  unfold digs at ih ⊢
  rw [List.reverse_append, List.map_append, decV_snoc]
  simp only [List.reverse_cons, List.reverse_nil, List.nil_append, List.map_cons, List.map_nil, List.cons_append, D10.val, ih]
  omega
theorem digs_ok {l : List UInt8} (h : l.all isD = true) : D10.OKl (digs l) := by
  intro x hx
  unfold digs at hx
  obtain ⟨c, hc, rfl⟩ := List.mem_map.1 hx
  have := List.all_eq_true.1 h c (List.mem_reverse.1 hc)
  exact (isD_back this).1
theorem digs_toG {l : List UInt8} (h : l.all isD = true) (hl : l.head? ≠ some 48) : digs l = D10.toG (decV l) := by
  rw [← digs_val]
  refine (D10.toG_val (digs_ok h) ?_).symm
  intro hc
  unfold digs at hc
  rw [List.getLast?_map, List.getLast?_reverse] at hc
  cases l with
  | nil => cases hc
  | cons c l =>
    rw [List.head?_cons, Option.map_some] at hc
    have h0 := Option.some.inj hc
    have hd := List.all_eq_true.1 h c List.mem_cons_self
    obtain ⟨-, h2⟩ := isD_back hd
    rw [h0] at h2
    rw [← h2] at hl
    exact hl rfl
end N3
