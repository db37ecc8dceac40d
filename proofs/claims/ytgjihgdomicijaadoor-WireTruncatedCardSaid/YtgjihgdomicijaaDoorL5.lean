import Derived.Test.YtgjihgdomicijaaDoorPlain2
import Derived.Deep.CutRange
import Derived.Deep.DeepCutAuto
namespace Go.Proofs.YtgjihgdomicijaaDoor
open Go.RowKit

theorem take7_hi_none {s : ByteArray} : ∀ (f a : Nat), (∀ j (h : j < s.size), 128 ≤ s[j].toNat) → take7 s f a = none := by
  intro f
  induction f with
  | zero => intro a _; rfl
  | succ f ih =>
    intro a h
    by_cases hp : a < s.size
    · rw [take7_hi hp (by have := h a hp; omega), ih (a + 1) h]; rfl
    · exact take7_out hp
theorem enc_init : ∀ (m z j : Nat), z ≤ m → j + 1 < (enc z).length → ∃ x : Nat, 128 ≤ x ∧ x < 256 ∧ (enc z)[j]? = some (x : Int) := by
  intro m
  induction m with
  | zero => intro z j hz hj; obtain rfl : z = 0 := by omega
            rw [enc_lt (by omega)] at hj; simp at hj
  | succ m ih =>
    intro z j hz hj
    by_cases hlt : z < 128
    · rw [enc_lt hlt] at hj; simp at hj
    · rw [enc_ge (by omega)] at hj ⊢
      cases j with
      | zero => exact ⟨z % 128 + 128, by omega, by omega, by simp⟩
      | succ j =>
        obtain ⟨x, h1, h2, h3⟩ := ih (z / 128) j (by omega) (by simpa using hj)
        exact ⟨x, h1, h2, by simpa using h3⟩
theorem byte_get (s : ByteArray) (j : Nat) (h : j < s.size) (b : UInt8) (hb : s.data.toList[j]? = some b) : s[j] = b := by
  rw [byte_some s j h] at hb; simpa using hb

theorem int_prefix {n : Int} (h0 : -4611686018427387903 ≤ n) (h1 : n ≤ 4611686018427387903) {k : Nat} (hk : k < (encT n).size) {s : ByteArray} (hs : s = (encT n).extract 0 k) :
    intT s 0 = (0, 0, 10) := by
  rw [(encT_eq h0 h1).1] at hk hs
  rw [strOfNums_size] at hk
  have hlist : s.data.toList = (byteL (enc (zig n))).take k := by
    rw [hs, Lib.extract_data, strOfNums_list]; simp
  have hsz : s.size = k := by
    have : s.data.toList.length = k := by rw [hlist]; simp [byteL]; omega
    simpa using this
  unfold intT
  rw [if_neg (by omega)]
  refine intS_none (take7_hi_none 9 _ fun j hj => ?_)
  obtain ⟨x, hx1, hx2, hx3⟩ := enc_init (zig n) (zig n) j (Nat.le_refl _) (by omega)
  have : s.data.toList[j]? = some (UInt8.ofNat x) := by
    rw [hlist, List.getElem?_take_of_lt (by omega)]
    simp [byteL, hx3]
  rw [byte_get s j hj _ this]
  simp; omega

theorem str_prefix {t : ByteArray} (ht : t.size ≤ 65536) {k : Nat} (hk : k < (putsT t).size) {s : ByteArray} (hs : s = (putsT t).extract 0 k) :
    strN s 0 = ⟨#[]⟩ ∧ strE s 0 = 0 ∧ strC s 0 = 10 := by
  have hE := encT_eq (n := (t.size : Int)) (by omega) (by omega)
  have hp : putsT t = encT t.size ++ t := by unfold putsT; rw [if_pos ht, hE.1]
  rw [hp] at hk hs
  rw [ByteArray.size_append] at hk
  have hV : strV s 0 = (⟨#[]⟩, 0, 10) := by
    by_cases hlt : k < (encT t.size).size
    · have := int_prefix (n := (t.size : Int)) (by omega) (by omega) hlt (s := s) (by
        rw [hs]; apply str_ext
        rw [Lib.extract_data, Lib.extract_data, data_append, List.drop_zero, List.drop_zero, List.take_append_of_le_length (by simp; omega)])
      unfold strV
      rw [this]
      simp only
      rw [if_pos (by decide)]
    · have hl : s.data.toList = (encT t.size).data.toList ++ t.data.toList.take (k - (encT t.size).size) := by
        rw [hs, Lib.extract_data, data_append, List.drop_zero, Nat.sub_zero, List.take_append]
        rw [List.take_of_length_le (by simp; omega)]
        simp
      have := intT_at (s := s) (a := 0) (n := (t.size : Int)) (by omega) (by omega) (by rw [List.drop_zero]; exact hl)
      have hsz : s.size = k := by
        have h2 : s.data.toList.length = k := by rw [hl]; simp; omega
        simpa using h2
      unfold strV
      rw [show ((0 : Nat) : Int) = 0 from rfl] at this
      rw [this]
      simp only
      rw [if_neg (by simp), if_pos (by omega)]
  unfold strN strE strC; rw [hV]; exact ⟨rfl, rfl, rfl⟩

theorem prefix_eq {x y : Int} (hx0 : -4611686018427387903 ≤ x) (hx1 : x ≤ 4611686018427387903) (hy0 : -4611686018427387903 ≤ y) (hy1 : y ≤ 4611686018427387903)
    (he : (encT y).extract 0 (encT x).size = encT x) : x = y := by
  have h1 : (encT y).data.toList = (encT x).data.toList ++ (encT y).data.toList.drop (encT x).size := by
    have h2 : ((encT y).extract 0 (encT x).size).data.toList = (encT x).data.toList := by rw [he]
    rw [Lib.extract_data, List.drop_zero, Nat.sub_zero] at h2
    rw [← h2]
    exact (List.take_append_drop _ _).symm
  have h3 := intT_at (s := encT y) (a := 0) (n := x) hx0 hx1 (by rw [List.drop_zero]; exact h1)
  have h4 := intT_at (s := encT y) (a := 0) (n := y) (r := []) hy0 hy1 (by simp)
  rw [h4] at h3
  exact (congrArg Prod.fst h3).symm

theorem encT_pos (n : Int) (h0 : -4611686018427387903 ≤ n) (h1 : n ≤ 4611686018427387903) : 1 ≤ (encT n).size := by
  rw [(encT_eq h0 h1).1, strOfNums_size]; exact enc_pos _

set_option maxRecDepth 100000 in
set_option maxHeartbeats 2000000 in
theorem law5 (c d : Int) (s : ByteArray) (at_ : Int) (w : World) (hs : s.size ≤ maxLen) (hN : Nib w) (hc0 : -9223372036854775808 ≤ c) (hc1 : c ≤ 9223372036854775807) (hd0 : -9223372036854775808 ≤ d) (hd1 : d ≤ 9223372036854775807) (ha0 : -9223372036854775808 ≤ at_) (ha1 : at_ ≤ 9223372036854775807) :
    Calls Tryd.prog 7 #[.int .i64 c, .int .i64 d, .string s, .int .i64 at_] w fun e w' => e = .returned (.bool true) ∧ Below w.heap.size w w' := by
  have hsane := sane_any w hN
  unfold maxLen at hs
  have hcb := numberS_bd c
  have hdb := numberS_bd d
  have Hc := fun W => number_any c W hc0 hc1
  have Hd := fun W => number_any d W hd0 hd1
  generalize numberS c = x at hcb Hc
  generalize numberS d = y at hdb Hd
  have hxe := (encT_eq (n := x) (by omega) (by omega)).2
  have hye := (encT_eq (n := y) (by omega) (by omega)).2
  have hxp := encT_pos x (by omega) (by omega)
  have hyp := encT_pos y (by omega) (by omega)
  have hxs := encT_size x
  have hys := encT_size y
  have HPx : ∀ W, Calls Tryd.prog 12 #[.int .i64 x] W fun e w' => e = .returned (.tuple #[.string (encT x), .int .i64 0]) ∧ Below W.heap.size W w' := fun W => by
    have := putU x W; rw [hxe] at this; exact this
  have HPy : ∀ W, Calls Tryd.prog 12 #[.int .i64 y] W fun e w' => e = .returned (.tuple #[.string (encT y), .int .i64 0]) ∧ Below W.heap.size W w' := fun W => by
    have := putU y W; rw [hye] at this; exact this
  clear hN hxe hye
  go_enter Tryd.func7, Tryd.ntmps7
  go_wp2_with fail
  refine hsane.mono ?_
  clear hsane
  rintro e w1 ⟨rfl, hB1⟩
  go_wp2_with fail
  refine (Hc _).mono ?_
  rintro e w2 ⟨rfl, hB2⟩
  go_wp2_with fail
  refine (HPx _).mono ?_
  rintro e w3 ⟨rfl, hB3⟩
  go_wp2_with fail
  refine (Hd _).mono ?_
  rintro e w4 ⟨rfl, hB4⟩
  go_wp2_with fail
  refine (HPy _).mono ?_
  rintro e w5 ⟨rfl, hB5⟩
  have hB6 : Below w.heap.size w w3 := (hB1.trans (hB2.mono hB1.size)).trans (hB3.mono (Nat.le_trans hB1.size hB2.size))
  have hB7 : Below w.heap.size w w5 := (hB6.trans (hB4.mono hB6.size)).trans (hB5.mono (Nat.le_trans hB6.size hB4.size))
  have HC := Lib.hid Hc
  have HD := Lib.hid Hd
  clear Hc Hd HPx HPy hB1 hB2 hB3 hB4 hB5 hB6
  go_upto_region 4 with fail
  go_cut [14, 15] from 37 (fun u14 u15 wc => ∃ t : ByteArray, u14 = .string (putsT t) ∧ u15 = .int .i64 0 ∧ t.size ≤ 200 ∧ Below w.heap.size w wc)
  case first =>
    have hput : ∀ (t : ByteArray) W, t.size ≤ 200 → Calls Tryd.prog 19 #[.string t] W fun e w' => e = .returned (.tuple #[.string (putsT t), .int .i64 0]) ∧ Below W.heap.size W w' := fun t W ht =>
      (putsU t W (by unfold maxLen; omega)).mono fun e w' ⟨he, hw⟩ => ⟨by rw [he, show putsE t = 0 from if_pos (by omega)], hw⟩
    have Hput := Lib.hid hput
    clear hput
    by_cases h200 : 200 < s.size
    · go_wp2_with fail
      refine (Hput.out _ _ (by simp [ByteArray.size_extract]; omega)).mono ?_
      rintro e w6 ⟨rfl, hB8⟩
      go_wp2_with fail
      go_meet
      exact ⟨_, rfl, rfl, by simp [ByteArray.size_extract]; omega, hB7.trans (hB8.mono hB7.size)⟩
    · go_wp2_with fail
      refine (Hput.out _ _ (by omega)).mono ?_
      rintro e w6 ⟨rfl, hB8⟩
      go_wp2_with fail
      go_meet
      exact ⟨_, rfl, rfl, by omega, hB7.trans (hB8.mono hB7.size)⟩
  case rest =>
    obtain ⟨t, rfl, rfl, ht, hB8⟩ := hcut
    have htp : 1 ≤ (putsT t).size := by
      unfold putsT; rw [if_pos (by omega), ByteArray.size_append, strOfNums_size]
      have := enc_pos (zig t.size); omega
    have htz : (putsT t).size ≤ 209 := by
      unfold putsT; rw [if_pos (by omega), ByteArray.size_append, strOfNums_size]
      have := enc_zig_len (n := (t.size : Int)) (by omega) (by omega); omega
    have hz1 : (((encT x).size : Int) == 0) = false := beq_eq_false_iff_ne.2 (by omega)
    have hz2 : (((putsT t).size : Int) == 0) = false := beq_eq_false_iff_ne.2 (by omega)
    have hb1 := pickS_bd at_ (encT x).size (by omega)
    have hb2 := pickS_bd at_ (putsT t).size (by omega)
    obtain ⟨k1, hk1⟩ := Int.eq_ofNat_of_zero_le hb1.1
    obtain ⟨k2, hk2⟩ := Int.eq_ofNat_of_zero_le hb2.1
    have Hp1 : ∀ W, Calls Tryd.prog 14 #[.int .i64 at_, .int .i64 (encT x).size] W fun e w' => e = .returned (.int .i64 k1) ∧ W = w' := fun W => by
      have := pick_any at_ (encT x).size W ha0 ha1 (by omega) (by omega); rw [hk1] at this; exact this
    have Hp2 : ∀ W, Calls Tryd.prog 14 #[.int .i64 at_, .int .i64 (putsT t).size] W fun e w' => e = .returned (.int .i64 k2) ∧ W = w' := fun W => by
      have := pick_any at_ (putsT t).size W ha0 ha1 (by omega) (by omega); rw [hk2] at this; exact this
    rw [hk1] at hb1
    rw [hk2] at hb2
    have hi1 : (k1 : Int) ≤ ((encT x).size : Int) := by omega
    have hi2 : (k2 : Int) ≤ ((putsT t).size : Int) := by omega
    have hI : ∀ W, Calls Tryd.prog 15 #[.string ((encT x).extract 0 k1), .int .i64 0] W fun e w' => e = .returned (.tuple #[.int .i64 0, .int .i64 0, .int .i64 10]) ∧ W = w' := fun W => by
      refine (intU ((encT x).extract 0 k1) 0 W (by unfold maxLen; simp only [ByteArray.size_extract]; omega) (by omega) (by omega)).mono fun e w' ⟨he, hw⟩ => ⟨?_, hw⟩
      rw [he]; unfold intN intE intC; rw [int_prefix (n := x) (by omega) (by omega) (by omega) rfl]
    have hS : ∀ W, Calls Tryd.prog 17 #[.string ((putsT t).extract 0 k2), .int .i64 0] W fun e w' => e = .returned (.tuple #[.string ⟨#[]⟩, .int .i64 0, .int .i64 10]) ∧ W = w' := fun W => by
      refine (strU ((putsT t).extract 0 k2) 0 W (by unfold maxLen; simp only [ByteArray.size_extract]; omega) (by omega) (by omega)).mono fun e w' ⟨he, hw⟩ => ⟨?_, hw⟩
      obtain ⟨e1, e2, e3⟩ := str_prefix (t := t) (by omega) (k := k2) (by omega) rfl
      rw [he, e1, e2, e3]
    have HI := Lib.hid hI
    have HS := Lib.hid hS
    clear hI hS hk1 hk2
    have hfin : (x = y ∧ x = y) ∨ ((x == y) = false ∧ (y == x) = false ∧ (((encT x).size : Int) ≤ ((encT y).size : Int) → (((encT y).extract 0 (encT x).size).toList == (encT x).toList) = false)) := by
      by_cases he : x = y
      · exact .inl ⟨he, he⟩
      · refine .inr ⟨by simpa using he, by simpa using fun h => he h.symm, fun _ => ?_⟩
        rw [beq_eq_false_iff_ne]
        exact fun h => he (prefix_eq (by omega) (by omega) (by omega) (by omega) (str_toList h))
    rcases hfin with ⟨rfl, -⟩ | ⟨hne, hne2, hpre⟩
    · have hext : (encT x).extract 0 (encT x).size = encT x := by simp
      go_wp2_with fail
      refine (Hp1 _).mono ?_
      rintro e w6 ⟨rfl, rfl⟩
      go_wp2_with fail
      refine (HI.out _).mono ?_
      rintro e w6 ⟨rfl, rfl⟩
      go_wp2_with fail
      refine (Hp2 _).mono ?_
      rintro e w6 ⟨rfl, rfl⟩
      go_wp2_with fail
      refine (HS.out _).mono ?_
      rintro e w6 ⟨rfl, rfl⟩
      go_wp2_with fail
      refine (HC.out _).mono ?_
      rintro e w6 ⟨rfl, hB9⟩
      go_wp2_with fail
      refine (HD.out _).mono ?_
      rintro e w7 ⟨rfl, hB10⟩
      go_wp2
      go_ret
      exact ⟨rfl, (hB8.trans (hB9.mono hB8.size)).trans (hB10.mono (Nat.le_trans hB8.size hB9.size))⟩
    · have HPre := Lib.hid hpre
      clear hpre
      by_cases hle : ((encT x).size : Int) ≤ ((encT y).size : Int)
      · have hcmp := HPre.out hle
        have hsl : ∀ W : World, (Instr.slice 9 (.string (encT y)) none (some (.int .i64 ((encT x).size : Int))) none).run Tryd.prog W = .ok (.string ((encT y).extract 0 (encT x).size)) W := fun W => by
          have := run_slice_string_h (P := Tryd.prog) W 9 (encT y) Tryd.underlying9 .i64 ((encT x).size : Int) (by omega) hle
          rw [this]; rfl
        go_wp2_with fail
        refine (Hp1 _).mono ?_
        rintro e w6 ⟨rfl, rfl⟩
        go_wp2_with fail
        refine (HI.out _).mono ?_
        rintro e w6 ⟨rfl, rfl⟩
        go_wp2_with fail
        refine (Hp2 _).mono ?_
        rintro e w6 ⟨rfl, rfl⟩
        go_wp2_with fail
        refine (HS.out _).mono ?_
        rintro e w6 ⟨rfl, rfl⟩
        go_wp2_with fail
        refine (HC.out _).mono ?_
        rintro e w6 ⟨rfl, hB9⟩
        go_wp2_with fail
        refine (HD.out _).mono ?_
        rintro e w7 ⟨rfl, hB10⟩
        go_wp2
        go_ret
        exact ⟨rfl, (hB8.trans (hB9.mono hB8.size)).trans (hB10.mono (Nat.le_trans hB8.size hB9.size))⟩
      · have hle2 : decide (((encT x).size : Int) ≤ ((encT y).size : Int)) = false := by simpa using hle
        go_wp2_with fail
        refine (Hp1 _).mono ?_
        rintro e w6 ⟨rfl, rfl⟩
        go_wp2_with fail
        refine (HI.out _).mono ?_
        rintro e w6 ⟨rfl, rfl⟩
        go_wp2_with fail
        refine (Hp2 _).mono ?_
        rintro e w6 ⟨rfl, rfl⟩
        go_wp2_with fail
        refine (HS.out _).mono ?_
        rintro e w6 ⟨rfl, rfl⟩
        go_wp2_with fail
        refine (HC.out _).mono ?_
        rintro e w6 ⟨rfl, hB9⟩
        go_wp2_with fail
        refine (HD.out _).mono ?_
        rintro e w7 ⟨rfl, hB10⟩
        go_wp2
        go_ret
        exact ⟨rfl, (hB8.trans (hB9.mono hB8.size)).trans (hB10.mono (Nat.le_trans hB8.size hB9.size))⟩
end Go.Proofs.YtgjihgdomicijaaDoor
