import Derived.Test.YtgjihgdomicijaaDoorT10
import Derived.Test.YtgjihgdomicijaaDoorCrc2
import Derived.Deep.CutRange
import Derived.Deep.DeepCutAuto
import Derived.Deep.OwnRows
import Derived.Deep.QuietTactic
import Derived.BigQuiet
import Derived.WalkLawsBesides
import Derived.RegionTactic
import Derived.WalkSmall
namespace Go.Proofs.YtgjihgdomicijaaDoor
open Go.RowKit

def sumN (s : ByteArray) : Nat := crcK s s.size ^^^ 4294967295
theorem sumN_eq (s : ByteArray) : sumS s = (sumN s : Int) ∧ sumN s < 4294967296 := by
  have h := crcK_lt s s.size
  have h1 := u32_not (crcK s s.size) h
  have h2 := u32_xor 4294967295 (crcK s s.size) (by decide) h
  rw [show IntKind.u32.max = ((4294967295 : Nat) : Int) from by decide, h2, Nat.xor_comm] at h1
  refine ⟨?_, xor_lt32 _ _ h (by decide)⟩
  unfold sumS sumN
  omega
theorem xor_list (a b c : List Nat) (n : Nat) (ha : a.length = n) (hb : b.length = n) (hc : c.length = n) (x : List Nat) (hx : x.length = n)
    (h : ∀ j, j < n → x.getD j 0 = a.getD j 0 ^^^ b.getD j 0 ^^^ c.getD j 0) : x = List.zipWith (fun x y => x ^^^ y) (List.zipWith (fun x y => x ^^^ y) a b) c := by
  apply List.ext_getElem
  · simp [ha, hb, hc, hx]
  · intro j h1 h2
    have := h j (by omega)
    simp only [List.getD_eq_getElem?_getD, List.getElem?_eq_getElem h1, List.getElem?_eq_getElem (show j < a.length by omega), List.getElem?_eq_getElem (show j < b.length by omega), List.getElem?_eq_getElem (show j < c.length by omega), Option.getD_some] at this
    simp [this]
theorem sum3 (X A B C : ByteArray) (n : Nat) (hX : X.size = n) (hA : A.size = n) (hB : B.size = n) (hC : C.size = n)
    (h : ∀ j, j < n → (bytesN X).getD j 0 = (bytesN A).getD j 0 ^^^ (bytesN B).getD j 0 ^^^ (bytesN C).getD j 0) : sumN X = sumN A ^^^ sumN B ^^^ sumN C := by
  unfold sumN crcK
  have e : ∀ s : ByteArray, (bytesN s).take s.size = bytesN s := fun s => List.take_of_length_le (by rw [bytesN_len]; exact Nat.le_refl _)
  rw [e, e, e, e, xor_list (bytesN A) (bytesN B) (bytesN C) n (by rw [bytesN_len]; exact hA) (by rw [bytesN_len]; exact hB) (by rw [bytesN_len]; exact hC) (bytesN X) (by rw [bytesN_len]; exact hX) h]
  have h3 := crcL_xor3 (bytesN A) (bytesN B) (bytesN C) 4294967295 4294967295 4294967295 (by rw [bytesN_len, bytesN_len, hA, hB]) (by rw [bytesN_len, bytesN_len, hB, hC])
  rw [show 4294967295 ^^^ 4294967295 ^^^ 4294967295 = 4294967295 from by decide] at h3
  rw [h3, ← xor_swap]
  congr 1

def xorAt (a b c : ByteArray) (j : Nat) : Nat := (bytesN a).getD j 0 ^^^ (bytesN b).getD j 0 ^^^ (bytesN c).getD j 0
def xorRow (a b c : ByteArray) (k j : Nat) : Value := if j < k then .int .u8 (xorAt a b c j) else .int .u8 0
theorem bytesN_get (s : ByteArray) (j : Nat) (h : j < s.size) : (bytesN s).getD j 0 = s[j].toNat := by
  rw [List.getD_eq_getElem?_getD, bytesN, List.getElem?_map, byte_some s j h]; rfl
theorem bytesN_getlt (s : ByteArray) (j : Nat) : (bytesN s).getD j 0 < 256 := by
  by_cases h : j < s.size
  · rw [bytesN_get s j h]; exact s[j].toNat_lt
  · rw [List.getD_eq_getElem?_getD, List.getElem?_eq_none (by rw [bytesN_len]; omega)]; decide
theorem xor8 (a b : Nat) (ha : a < 256) (hb : b < 256) : a ^^^ b < 256 := Nat.xor_lt_two_pow (n := 8) ha hb

set_option maxRecDepth 100000 in
set_option maxHeartbeats 2000000 in
theorem law7 (a b c : ByteArray) (w : World) (ha : a.size ≤ maxLen) (hb : b.size ≤ maxLen) (hc : c.size ≤ maxLen) (hN : Nib w) :
    Calls Tryd.prog 9 #[.string a, .string b, .string c] w fun e w' => e = .returned (.bool true) ∧ Below w.heap.size w w' := by
  have hsane := sane_any w hN
  have HN := Lib.hid hN
  clear hN
  unfold maxLen at ha hb hc
  go_enter Tryd.func9, Tryd.ntmps9
  go_wp2_with fail
  refine hsane.mono ?_
  clear hsane
  rintro e w1 ⟨rfl, hB1⟩
  obtain ⟨n, hn1, hn2, hn3, hn4, hmin⟩ : ∃ n : Nat, n ≤ a.size ∧ n ≤ b.size ∧ n ≤ c.size ∧ n ≤ 200 ∧ ∀ (ts : Array TypeId) (t : TypeId) (W : World), (Builtin.min_ ts t #[.int .i64 (a.size : Int), .int .i64 (b.size : Int), .int .i64 (c.size : Int), .int .i64 200]).run Tryd.prog W = .ok (.int .i64 (n : Int)) W := by
    refine ⟨min (min (min a.size b.size) c.size) 200, by omega, by omega, by omega, by omega, fun ts t W => ?_⟩
    simp only [Builtin.min_, Builtin.min2, List.foldlM_cons, List.foldlM_nil, Sem.run_bind, Sem.run_pure, Result.andThen]
    congr 2
    omega
  have hmk : ∀ W : World, (Instr.makeSlice 38 (.int .i64 n) (.int .i64 n)).run Tryd.prog W = .ok (.slice (some ⟨W.heap.size, 0, none⟩) n n) (W.alloc (.cells (madeCells #[.int .u8 0] n) 5)) := fun W => by
    obtain ⟨i, hi, hz0, hz1, hz2⟩ := info_parts E38.info
    have := run_make (P := Tryd.prog) W 38 5 i (.int .u8 0) E38.und hi hz0 .i64 .i64 (n : Int) (n : Int) (by omega) (by omega) (by rw [hz2]; omega) (by omega)
    rw [this, hz1]
    simp [Value.cells]
  have hrow := World.rowIs_made w1 (.int .u8 0) n 5
  have hB2 := hB1.alloc hB1.size (.cells (madeCells #[.int .u8 0] n) 5)
  have hsz : w1.heap.size < (w1.alloc (.cells (madeCells #[.int .u8 0] n) 5)).heap.size := by simp
  go_wp2_with fail
  go_loopw [10] (fun u10 wr => ∃ k : Nat, k ≤ n ∧ u10 = .int .i64 k ∧ wr.rowIs w1.heap.size 5 n (xorRow a b c k) ∧ Below w.heap.size w wr) (fun u10 _ => (n - intOf u10).toNat)
  case atStart => exact ⟨0, by omega, rfl, hrow.congr (fun i _ => by unfold xorRow; rw [if_neg (by omega)]), hB2⟩
  case round =>
    clear hrow hB2 hmk hmin
    obtain ⟨k, hk, rfl, hrow, hBr⟩ := hrel
    by_cases hkn : k < n
    · have hcell := hrow.cell hkn
      have hfr := hrow.frozen k
      have hxa := a[k].toNat_lt
      have hxb := b[k].toNat_lt
      have hxc := c[k].toNat_lt
      have hx1 := u8_xor a[k].toNat b[k].toNat hxa hxb
      have hy1 := xor8 _ _ hxa hxb
      obtain ⟨y1, e1⟩ : ∃ y1, y1 = a[k].toNat ^^^ b[k].toNat := ⟨_, rfl⟩
      rw [← e1] at hx1 hy1
      have hx2 := u8_xor y1 c[k].toNat hy1 hxc
      obtain ⟨y2, e2⟩ : ∃ y2, y2 = y1 ^^^ c[k].toNat := ⟨_, rfl⟩
      rw [← e2] at hx2
      have HE : Hid (xorAt a b c k = y2) := by
        unfold Hid xorAt
        rw [bytesN_get a k (by omega), bytesN_get b k (by omega), bytesN_get c k (by omega), e2, e1]
      clear e1 e2
      have h0k : (0 : Int) ≤ (k : Int) := Int.natCast_nonneg _
      have hka : (k : Int) < (a.size : Int) := by omega
      have hkb : (k : Int) < (b.size : Int) := by omega
      have hkc : (k : Int) < (c.size : Int) := by omega
      have hkn2 : (k : Int) < (n : Int) := by omega
      go_wp2_with fail
      go_region
      all_goals go_wp2
      go_roundw
      case rel =>
        refine ⟨k + 1, by omega, by go_num, (hrow.set k (.int .u8 y2)).drew.congr (fun j hj => ?_), (hBr.setCell (p := ⟨w1.heap.size, k, none⟩) hB1.size _).drew⟩
        unfold xorRow
        by_cases hjk : j = k
        · subst hjk; rw [if_pos rfl, if_pos (by omega), HE.out]
        · rw [if_neg hjk]
          by_cases hlt : j < k
          · rw [if_pos hlt, if_pos (by omega)]
          · rw [if_neg hlt, if_neg (by omega)]
      case measure => simp [intOf]; omega
    · obtain rfl : n = k := by omega
      have hsl : ∀ (t : ByteArray), n ≤ t.size → ∀ W : World, (Instr.slice 9 (.string t) none (some (.int .i64 (n : Int))) none).run Tryd.prog W = .ok (.string (t.extract 0 n)) W := fun t ht W => by
        have := run_slice_string_h (P := Tryd.prog) W 9 t Tryd.underlying9 .i64 (n : Int) (by omega) (by omega)
        rw [this]; rfl
      have hsa := hsl a hn1
      have hsb := hsl b hn2
      have hsc := hsl c hn3
      obtain ⟨X, hXs, hXg, hcv⟩ : ∃ X : ByteArray, X.size = n ∧ (∀ j, j < n → (bytesN X).getD j 0 = xorAt a b c j) ∧ ∀ q, (convert 38 9 (.slice (some ⟨w1.heap.size, 0, none⟩) n n)).run Tryd.prog (wr.drewN q) = .ok (.string X) (wr.drewN q) := by
        refine ⟨strOfNums ((List.range n).map fun j => (xorAt a b c j : Int)), by rw [strOfNums_size]; simp, fun j hj => ?_, fun q => ?_⟩
        · rw [List.getD_eq_getElem?_getD, bytesN, strOfNums_list, byteL]
          simp only [List.getElem?_map, List.getElem?_range hj, Option.map_some, Option.getD_some, Int.toNat_natCast]
          have h1 : xorAt a b c j < 256 := xor8 _ _ (xor8 _ _ (bytesN_getlt _ _) (bytesN_getlt _ _)) (bytesN_getlt _ _)
          simp; omega
        · refine run_convert_bytes_arg (P := Tryd.prog) (wr.drewN q) 38 5 Tryd.underlying38 Tryd.underlying5 w1.heap.size 0 n n _ (by simp) (fun i hi => ?_) 9 Tryd.underlying9
          have := hrow.cell hi
          rw [show (wr.drewN q).cell? ⟨w1.heap.size, 0 + i, none⟩ = wr.cell? ⟨w1.heap.size, 0 + i, none⟩ from by simp, Nat.zero_add, this]
          unfold xorRow; rw [if_pos hi]
          simp [List.getD, hi]
      have hA : (a.extract 0 n).size = n := by rw [ByteArray.size_extract]; omega
      have hB : (b.extract 0 n).size = n := by rw [ByteArray.size_extract]; omega
      have hC : (c.extract 0 n).size = n := by rw [ByteArray.size_extract]; omega
      have hget : ∀ (t : ByteArray), n ≤ t.size → ∀ j, j < n → (bytesN (t.extract 0 n)).getD j 0 = (bytesN t).getD j 0 := fun t ht j hj => by
        rw [List.getD_eq_getElem?_getD, List.getD_eq_getElem?_getD, bytesN, bytesN, Lib.extract_data]
        simp [List.getElem?_take_of_lt hj]
      have h3 := sum3 X (a.extract 0 n) (b.extract 0 n) (c.extract 0 n) n hXs hA hB hC (fun j hj => by
        rw [hXg j hj, hget a hn1 j hj, hget b hn2 j hj, hget c hn3 j hj]; rfl)
      obtain ⟨eX, lX⟩ := sumN_eq X
      obtain ⟨eA, lA⟩ := sumN_eq (a.extract 0 n)
      obtain ⟨eB, lB⟩ := sumN_eq (b.extract 0 n)
      obtain ⟨eC, lC⟩ := sumN_eq (c.extract 0 n)
      have hq1 := i64_xor (sumN (a.extract 0 n)) (sumN (b.extract 0 n)) (by omega) (by omega)
      have lq := xor_lt32 _ _ lA lB
      have hq2 := i64_xor (sumN (a.extract 0 n) ^^^ sumN (b.extract 0 n)) (sumN (c.extract 0 n)) (by omega) (by omega)
      rw [← h3] at hq2
      have hS : ∀ (t : ByteArray), t.size = n → ∀ q, Calls Tryd.prog 21 #[.string t] (wr.drewN q) fun e w' => e = .returned (.int .i64 (sumN t)) ∧ w' = wr.drewN q := fun t ht q =>
        (sum_any t (wr.drewN q) (by unfold maxLen; omega) (HN.out.below (below_drewN hBr q))).mono fun e w' ⟨he, hw⟩ => ⟨by rw [he, (sumN_eq t).1], hw.symm⟩
      have HSall := Lib.hid hS
      have HB := Lib.hid hBr
      have HX := Lib.hid hXs
      have HA := Lib.hid hA
      have HB2 := Lib.hid hB
      have HC := Lib.hid hC
      obtain ⟨q1, e1⟩ : ∃ q1, q1 = sumN (a.extract 0 n) ^^^ sumN (b.extract 0 n) := ⟨_, rfl⟩
      rw [← e1] at hq1 hq2
      clear hS hXg hget hsl hA hB hC hXs h3 eX eA eB eC hrow hBr e1
      go_wp2_with fail
      go_quiet ((go_at_call 21; exact Calls.quiet_of_same (HSall.out _ (by first | exact HX.out | exact HA.out | exact HB2.out | exact HC.out) _)))
      go_wp2
      go_ret
      exact ⟨rfl, below_drewN HB.out _⟩
end Go.Proofs.YtgjihgdomicijaaDoor
