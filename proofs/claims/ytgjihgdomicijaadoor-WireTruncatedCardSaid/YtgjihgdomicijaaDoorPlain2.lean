/- Plain mathematics of decoding, as the laws need it: what an encoding decodes into, wherever it stands; what is accepted is an encoding. -/
import Derived.Test.YtgjihgdomicijaaDoorT10
namespace Go.Proofs.YtgjihgdomicijaaDoor
open Go.RowKit

theorem data_append (a b : ByteArray) : (a ++ b).data.toList = a.data.toList ++ b.data.toList := by simp [ByteArray.data_append]
theorem get_of_drop {s : ByteArray} {a : Nat} {b : UInt8} {r : List UInt8} (h : s.data.toList.drop a = b :: r) : ∃ hp : a < s.size, s[a] = b ∧ s.data.toList.drop (a + 1) = r := by
  have hp : a < s.size := by
    refine Classical.byContradiction fun hc => ?_
    rw [List.drop_eq_nil_of_le (by simp; omega)] at h
    cases h
  refine ⟨hp, ?_⟩
  rw [drop_cons s a hp] at h
  simpa using h

theorem take7_at {s : ByteArray} : ∀ (m z f a : Nat) (r : List UInt8), z ≤ m → s.data.toList.drop a = byteL (enc z) ++ r → (enc z).length ≤ f →
    ∃ l, take7 s f a = some (z, a + (enc z).length, l) ∧ (l ≠ 0 ∨ (enc z).length = 1) ∧ (1 ≤ z → l ≠ 0) := by
  intro m
  induction m with
  | zero =>
    intro z f a r hz hd hf
    obtain rfl : z = 0 := by omega
    rw [enc_lt (by omega)] at hd hf ⊢
    obtain ⟨hp, hb, -⟩ := get_of_drop (by simpa [byteL] using hd)
    cases f with
    | zero => simp at hf
    | succ f =>
      have hb0 : s[a].toNat = 0 := by rw [hb]; rfl
      rw [take7_lo hp (by omega), hb0]
      exact ⟨0, rfl, .inr rfl, by omega⟩
  | succ m ih =>
    intro z f a r hz hd hf
    cases f with
    | zero =>
      by_cases hlt : z < 128
      · rw [enc_lt hlt] at hf; simp at hf
      · rw [enc_ge (by omega)] at hf; simp at hf
    | succ f =>
      by_cases hlt : z < 128
      · rw [enc_lt hlt] at hd ⊢
        obtain ⟨hp, hb, -⟩ := get_of_drop (by simpa [byteL] using hd)
        have hbz : s[a].toNat = z := by rw [hb]; simp; omega
        rw [take7_lo hp (by omega), hbz]
        exact ⟨z, rfl, .inr rfl, by omega⟩
      · rw [enc_ge (by omega)] at hd hf ⊢
        obtain ⟨hp, hb, hd2⟩ := get_of_drop (s := s) (a := a) (by simpa [byteL] using hd)
        have hbz : s[a].toNat = z % 128 + 128 := by
          rw [hb, UInt8.toNat_ofNat']; omega
        obtain ⟨l, h1, h2, h3⟩ := ih (z / 128) f (a + 1) r (by omega) (by rw [hd2]; simp [byteL]) (by simpa using hf)
        rw [take7_hi hp (by omega), h1, hbz]
        refine ⟨l, ?_, .inl (h3 (by omega)), fun _ => h3 (by omega)⟩
        simp
        omega

theorem enc_pos (z : Nat) : 1 ≤ (enc z).length := by
  by_cases h : z < 128
  · rw [enc_lt h]; simp
  · rw [enc_ge (by omega)]; simp
theorem encT_eq {n : Int} (h0 : -4611686018427387903 ≤ n) (h1 : n ≤ 4611686018427387903) : encT n = strOfNums (enc (zig n)) ∧ encE n = 0 := by
  unfold encT encE; rw [if_pos ⟨h0, h1⟩, if_pos ⟨h0, h1⟩]; exact ⟨rfl, rfl⟩

theorem intT_at {s : ByteArray} {a : Nat} {n : Int} {r : List UInt8} (h0 : -4611686018427387903 ≤ n) (h1 : n ≤ 4611686018427387903)
    (hd : s.data.toList.drop a = (encT n).data.toList ++ r) : intT s a = (n, ((a + (encT n).size : Nat) : Int), 0) := by
  rw [(encT_eq h0 h1).1, strOfNums_list] at hd
  rw [(encT_eq h0 h1).1, strOfNums_size]
  obtain ⟨l, h2, h3, -⟩ := take7_at (zig n) (zig n) 9 a r (Nat.le_refl _) hd (enc_zig_len h0 h1)
  have hs := take7_span h2
  unfold intT
  rw [if_neg (by omega), Int.toNat_natCast, intS_ok h2 (by rw [unzig_zig]; omega), unzig_zig]

theorem drop_append (a b : ByteArray) : (a ++ b).data.toList.drop a.size = b.data.toList := by
  rw [data_append, List.drop_append_of_le_length (by simp)]
  simp

theorem extract_add (s : ByteArray) (a b c : Nat) (hab : a ≤ b) (hbc : b ≤ c) : s.extract a b ++ s.extract b c = s.extract a c := by
  apply str_ext
  rw [data_append, Lib.extract_data, Lib.extract_data, Lib.extract_data]
  rw [show c - a = (b - a) + (c - b) by omega, List.take_add, List.drop_drop, show a + (b - a) = b by omega]

theorem strV_at {s : ByteArray} {a : Nat} {t : ByteArray} {r : List UInt8} (ht : t.size ≤ 65536) (hd : s.data.toList.drop a = (putsT t).data.toList ++ r) :
    strN s a = t ∧ strE s a = ((a + (putsT t).size : Nat) : Int) ∧ strC s a = 0 := by
  unfold putsT at hd ⊢
  rw [if_pos ht] at hd ⊢
  rw [data_append, List.append_assoc] at hd
  have hE := encT_eq (n := (t.size : Int)) (by omega) (by omega)
  have hi := intT_at (n := (t.size : Int)) (by omega) (by omega) (by rw [hE.1]; exact hd)
  rw [hE.1] at hi
  have hlen : s.size - a = (strOfNums (enc (zig t.size))).size + (t.size + r.length) := by
    have := congrArg List.length hd
    simpa using this
  have hpos : 1 ≤ (strOfNums (enc (zig t.size))).size := by rw [strOfNums_size]; exact enc_pos _
  have hsz : (strOfNums (enc (zig t.size)) ++ t).size = (strOfNums (enc (zig t.size))).size + t.size := by simp [ByteArray.size_append]
  have hV : strV s a = (t, ((a + ((strOfNums (enc (zig t.size))).size + t.size) : Nat) : Int), 0) := by
    unfold strV
    rw [hi]
    simp only
    rw [if_neg (by simp), if_neg (by omega)]
    have e1 : (((a + (strOfNums (enc (zig t.size))).size : Nat) : Int)).toNat = a + (strOfNums (enc (zig t.size))).size := by omega
    have e2 : (((a + (strOfNums (enc (zig t.size))).size : Nat) : Int) + (t.size : Int)).toNat = a + (strOfNums (enc (zig t.size))).size + t.size := by omega
    rw [e1, e2]
    refine Prod.ext ?_ (Prod.ext ?_ rfl)
    · apply str_ext
      rw [Lib.extract_data, ← List.drop_drop, hd, show ∀ x : ByteArray, x.size = x.data.toList.length from fun x => by simp]
      simp
    · simp only; omega
  unfold strN strE strC
  rw [hV, hsz]
  exact ⟨rfl, rfl, rfl⟩

theorem int_unique (s : ByteArray) (a : Nat) (h : a ≤ s.size) : (intN s a = 0 ∧ intE s a = 0 ∧ intC s a = 10) ∨
    ∃ (n : Int) (e : Nat), intN s a = n ∧ intE s a = e ∧ intC s a = 0 ∧ a < e ∧ e ≤ s.size ∧ encE n = 0 ∧ encT n = s.extract a e ∧ -4611686018427387903 ≤ n ∧ n ≤ 4611686018427387903 := by
  have hT : intT s a = intS s a := by unfold intT; rw [if_neg (by omega), Int.toNat_natCast]
  unfold intN intE intC
  rw [hT]
  cases ht : take7 s 9 a with
  | none => left; rw [intS_none ht]; exact ⟨rfl, rfl, rfl⟩
  | some x =>
    obtain ⟨z, e, l⟩ := x
    have hs := take7_span ht
    have hub := unzig_bd z (by have := hs.2.2.2.2.2; have e9 : 128 ^ 9 = 9223372036854775808 := by decide
                               omega)
    by_cases hb : (l = 0 ∧ a + 1 < e) ∨ unzig z < -4611686018427387903
    · left; rw [intS_bad ht hb]; exact ⟨rfl, rfl, rfl⟩
    · right
      rw [intS_ok ht hb]
      have hE := encT_eq (n := unzig z) (by omega) (by omega)
      refine ⟨unzig z, e, rfl, rfl, rfl, hs.1, hs.2.1, hE.2, ?_, by omega, by omega⟩
      rw [hE.1, zig_unzig, canon_ok ht (by omega)]

theorem str_unique (s : ByteArray) (a : Nat) (h : a ≤ s.size) : (strN s a = ⟨#[]⟩ ∧ strE s a = 0 ∧ strC s a = 10) ∨
    ∃ (v : ByteArray) (e : Nat), strN s a = v ∧ strE s a = e ∧ strC s a = 0 ∧ a < e ∧ e ≤ s.size ∧ putsE v = 0 ∧ putsT v = s.extract a e ∧ v.size ≤ 65536 := by
  rcases int_unique s a h with ⟨h1, h2, h3⟩ | ⟨n, e, h1, h2, h3, h4, h5, h6, h7, h8, h9⟩
  · left
    have hV : strV s a = (⟨#[]⟩, 0, 10) := by
      unfold strV
      unfold intN at h1; unfold intE at h2; unfold intC at h3
      simp only
      rw [if_pos (by rw [h3]; decide), h3]
    unfold strN strE strC; rw [hV]; exact ⟨rfl, rfl, rfl⟩
  · unfold intN at h1; unfold intE at h2; unfold intC at h3
    by_cases hb : n < 0 ∨ 65536 < n ∨ (s.size : Int) - e < n
    · left
      have hV : strV s a = (⟨#[]⟩, 0, 10) := by
        unfold strV
        simp only
        rw [if_neg (by rw [h3]; decide), if_pos (by rw [h1, h2]; exact hb)]
      unfold strN strE strC; rw [hV]; exact ⟨rfl, rfl, rfl⟩
    · right
      obtain ⟨m, rfl⟩ := Int.eq_ofNat_of_zero_le (show 0 ≤ n by omega)
      have hV : strV s a = (s.extract e (e + m), ((e + m : Nat) : Int), 0) := by
        unfold strV
        simp only
        rw [if_neg (by rw [h3]; decide), if_neg (by rw [h1, h2]; exact hb), h1, h2]
        rfl
      have hsz : (s.extract e (e + m)).size = m := by rw [ByteArray.size_extract]; omega
      refine ⟨s.extract e (e + m), e + m, by unfold strN; rw [hV], by unfold strE; rw [hV], by unfold strC; rw [hV], by omega, by omega, ?_, ?_, by omega⟩
      · unfold putsE; rw [if_pos (by omega)]
      · unfold putsT
        rw [if_pos (by omega), hsz, ← (encT_eq (n := (m : Int)) (by omega) (by omega)).1, h7]
        exact extract_add s a e (e + m) (by omega) (by omega)
end Go.Proofs.YtgjihgdomicijaaDoor
