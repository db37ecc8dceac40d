import Derived.Test.YtgjihgdomicijaaDoorT9
import Derived.Test.YtgjihgdomicijaaDoorT1
import Derived.Lib.LaidTab
import Derived.OpenShut
namespace Go.Proofs.YtgjihgdomicijaaDoor
open Go.RowKit

theorem gNib : Tryd.prog.globalNamed "nadir/wire.nibbles" = some 0 := by kernel_rfl
theorem nib_of_table {W : World} (h : Lib.TabIs Tryd.prog W "nadir/wire.nibbles" .u32 [0, 274646895, 549293790, 820201905, 1098587580, 1361435347, 1640403810, 1905808397, 2197175160, 2460548119, 2722870694, 2987750089, 3280807620, 3553878443, 3811616794, 4084100981]) : Nib W := by
  refine ⟨World.block_lt_of_cell? W _ (h.cell gNib 0 (by decide)), fun k hk => ?_⟩
  rw [h.cell gNib k hk]
  have : ∀ k : Fin 16, ([0, 274646895, 549293790, 820201905, 1098587580, 1361435347, 1640403810, 1905808397, 2197175160, 2460548119, 2722870694, 2987750089, 3280807620, 3553878443, 3811616794, 4084100981] : List Int).getD k.val 0 = (nb k.val : Int) := by decide
  rw [this ⟨k, hk⟩]
theorem i64_bd {n : Int} (h : (Lit.int .i64 n).wf = true) : -9223372036854775808 ≤ n ∧ n ≤ 9223372036854775807 := bounds_i64 h

/-! The contracts once more, each for every argument, with one answer for both implementations. -/
def encT (k : Int) : ByteArray := if -4611686018427387903 ≤ k ∧ k ≤ 4611686018427387903 then strOfNums (enc (zig k)) else ⟨#[]⟩
def encE (k : Int) : Int := if -4611686018427387903 ≤ k ∧ k ≤ 4611686018427387903 then 0 else 10
theorem putU (k : Int) (w : World) : Calls Tryd.prog 12 #[.int .i64 k] w fun e w' => e = .returned (.tuple #[.string (encT k), .int .i64 (encE k)]) ∧ Below w.heap.size w w' := by
  by_cases h : -4611686018427387903 ≤ k ∧ k ≤ 4611686018427387903
  · exact (put_yes k w h.1 h.2).mono fun _ _ ⟨he, hw⟩ => ⟨by rw [he, encT, encE, if_pos h, if_pos h], hw⟩
  · exact (put_no k w (by omega)).mono fun _ _ ⟨he, hw⟩ => ⟨by rw [he, encT, encE, if_neg h, if_neg h], by subst hw; exact Below.refl _ _⟩
theorem rputU (k : Int) (w : World) : Calls Tryd.prog 13 #[.int .i64 k] w fun e w' => e = .returned (.tuple #[.string (encT k), .int .i64 (encE k)]) ∧ Below w.heap.size w w' := by
  by_cases h : -4611686018427387903 ≤ k ∧ k ≤ 4611686018427387903
  · exact (rput_yes k w h.1 h.2).mono fun _ _ ⟨he, hw⟩ => ⟨by rw [he, encT, encE, if_pos h, if_pos h], hw⟩
  · exact (rput_no k w (by omega)).mono fun _ _ ⟨he, hw⟩ => ⟨by rw [he, encT, encE, if_neg h, if_neg h], by subst hw; exact Below.refl _ _⟩
theorem encT_size (k : Int) : (encT k).size ≤ 9 := by
  unfold encT; split
  · rename_i h; rw [strOfNums_size]; exact enc_zig_len h.1 h.2
  · simp [ByteArray.size]

def intT (s : ByteArray) (a : Int) : Int × Int × Int := if a < 0 ∨ (s.size : Int) < a then (0, 0, 2) else intS s a.toNat
def intN (s : ByteArray) (a : Int) : Int := (intT s a).1
def intE (s : ByteArray) (a : Int) : Int := (intT s a).2.1
def intC (s : ByteArray) (a : Int) : Int := (intT s a).2.2
theorem intU (s : ByteArray) (a : Int) (w : World) (hs : s.size ≤ maxLen) (h0 : -9223372036854775808 ≤ a) (h1 : a ≤ 9223372036854775807) :
    Calls Tryd.prog 15 #[.string s, .int .i64 a] w fun e w' => e = .returned (.tuple #[.int .i64 (intN s a), .int .i64 (intE s a), .int .i64 (intC s a)]) ∧ w = w' := by
  unfold intN intE intC intT
  by_cases h : a < 0 ∨ (s.size : Int) < a
  · rw [if_pos h]; exact int_arg s a w hs h h0 h1
  · rw [if_neg h]
    obtain ⟨m, rfl⟩ := Int.eq_ofNat_of_zero_le (show 0 ≤ a by omega)
    exact int_any s m w hs (by omega)
theorem rintU (s : ByteArray) (a : Int) (w : World) (hs : s.size ≤ maxLen) (h0 : -9223372036854775808 ≤ a) (h1 : a ≤ 9223372036854775807) :
    Calls Tryd.prog 16 #[.string s, .int .i64 a] w fun e w' => e = .returned (.tuple #[.int .i64 (intN s a), .int .i64 (intE s a), .int .i64 (intC s a)]) ∧ Below w.heap.size w w' := by
  unfold intN intE intC intT
  by_cases h : a < 0 ∨ (s.size : Int) < a
  · rw [if_pos h]; exact (rint_arg s a w hs h h0 h1).mono fun _ _ ⟨he, hw⟩ => ⟨he, by subst hw; exact Below.refl _ _⟩
  · rw [if_neg h]
    obtain ⟨m, rfl⟩ := Int.eq_ofNat_of_zero_le (show 0 ≤ a by omega)
    exact rint_any s m w hs (by omega)
def strV (s : ByteArray) (a : Int) : ByteArray × Int × Int :=
  let x := intT s a
  if x.2.2 ≠ 0 then (⟨#[]⟩, 0, x.2.2)
  else if x.1 < 0 ∨ 65536 < x.1 ∨ (s.size : Int) - x.2.1 < x.1 then (⟨#[]⟩, 0, 10)
  else (s.extract x.2.1.toNat (x.2.1 + x.1).toNat, x.2.1 + x.1, 0)
def strN (s : ByteArray) (a : Int) : ByteArray := (strV s a).1
def strE (s : ByteArray) (a : Int) : Int := (strV s a).2.1
def strC (s : ByteArray) (a : Int) : Int := (strV s a).2.2
theorem strI_V (s : ByteArray) (a : Int) : strI s (intT s a) = .tuple #[.string (strN s a), .int .i64 (strE s a), .int .i64 (strC s a)] := by
  unfold strI strN strE strC strV
  simp only
  split
  · rfl
  · split <;> rfl
theorem strU (s : ByteArray) (a : Int) (w : World) (hs : s.size ≤ maxLen) (h0 : -9223372036854775808 ≤ a) (h1 : a ≤ 9223372036854775807) :
    Calls Tryd.prog 17 #[.string s, .int .i64 a] w fun e w' => e = .returned (.tuple #[.string (strN s a), .int .i64 (strE s a), .int .i64 (strC s a)]) ∧ w = w' := by
  rw [← strI_V]
  unfold intT
  by_cases h : a < 0 ∨ (s.size : Int) < a
  · rw [if_pos h]; exact str_arg s a w hs h h0 h1
  · rw [if_neg h]
    obtain ⟨m, rfl⟩ := Int.eq_ofNat_of_zero_le (show 0 ≤ a by omega)
    exact str_any s m w hs (by omega)
theorem rstrU (s : ByteArray) (a : Int) (w : World) (hs : s.size ≤ maxLen) (h0 : -9223372036854775808 ≤ a) (h1 : a ≤ 9223372036854775807) :
    Calls Tryd.prog 18 #[.string s, .int .i64 a] w fun e w' => e = .returned (.tuple #[.string (strN s a), .int .i64 (strE s a), .int .i64 (strC s a)]) ∧ Below w.heap.size w w' := by
  rw [← strI_V]
  unfold intT
  by_cases h : a < 0 ∨ (s.size : Int) < a
  · rw [if_pos h]; exact (rstr_arg s a w hs h h0 h1).mono fun _ _ ⟨he, hw⟩ => ⟨he, by subst hw; exact Below.refl _ _⟩
  · rw [if_neg h]
    obtain ⟨m, rfl⟩ := Int.eq_ofNat_of_zero_le (show 0 ≤ a by omega)
    exact rstr_any s m w hs (by omega)
def putsT (s : ByteArray) : ByteArray := if s.size ≤ 65536 then strOfNums (enc (zig s.size)) ++ s else ⟨#[]⟩
def putsE (s : ByteArray) : Int := if s.size ≤ 65536 then 0 else 10
theorem putsU (s : ByteArray) (w : World) (hs : s.size ≤ maxLen) : Calls Tryd.prog 19 #[.string s] w fun e w' => e = .returned (.tuple #[.string (putsT s), .int .i64 (putsE s)]) ∧ Below w.heap.size w w' := by
  by_cases h : s.size ≤ 65536
  · exact (puts_yes s w h).mono fun _ _ ⟨he, hw⟩ => ⟨by rw [he, putsT, putsE, if_pos h, if_pos h]; rfl, hw⟩
  · exact (puts_no s w hs (by omega)).mono fun _ _ ⟨he, hw⟩ => ⟨by rw [he, putsT, putsE, if_neg h, if_neg h], by subst hw; exact Below.refl _ _⟩
theorem rputsU (s : ByteArray) (w : World) (hs : s.size ≤ maxLen) : Calls Tryd.prog 20 #[.string s] w fun e w' => e = .returned (.tuple #[.string (putsT s), .int .i64 (putsE s)]) ∧ Below w.heap.size w w' := by
  by_cases h : s.size ≤ 65536
  · exact (rputs_yes s w h).mono fun _ _ ⟨he, hw⟩ => ⟨by rw [he, putsT, putsE, if_pos h, if_pos h]; rfl, hw⟩
  · exact (rputs_no s w hs (by omega)).mono fun _ _ ⟨he, hw⟩ => ⟨by rw [he, putsT, putsE, if_neg h, if_neg h], by subst hw; exact Below.refl _ _⟩
end Go.Proofs.YtgjihgdomicijaaDoor
