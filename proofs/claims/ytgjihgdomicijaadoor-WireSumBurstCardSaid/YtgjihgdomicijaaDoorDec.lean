/- Plain mathematics of decoding: a string of bytes and the encoding. -/
import Derived.Test.YtgjihgdomicijaaDoorT5
import Derived.Lib.Strings
namespace Go.Proofs.YtgjihgdomicijaaDoor
open Go.RowKit

def byteL (l : List Int) : List UInt8 := l.map fun n => UInt8.ofNat n.toNat
theorem strOfNums_list (l : List Int) : (strOfNums l).data.toList = byteL l := by simp [strOfNums, byteL]

theorem strOfNums_size (l : List Int) : (strOfNums l).size = l.length := by simp [strOfNums, ByteArray.size]
theorem byte_some (s : ByteArray) (a : Nat) (h : a < s.size) : s.data.toList[a]? = some s[a] := by
  rw [List.getElem?_eq_getElem (by simpa using h)]; rfl
theorem drop_cons (s : ByteArray) (a : Nat) (h : a < s.size) : s.data.toList.drop a = s[a] :: s.data.toList.drop (a + 1) := by
  rw [List.drop_eq_getElem_cons (by simpa using h)]; rfl

theorem take7_span {s : ByteArray} : ∀ {f a z e l : Nat}, take7 s f a = some (z, e, l) → a < e ∧ e ≤ s.size ∧ l ≤ z ∧ l < 128 ∧ e ≤ a + f ∧ z < 128 ^ f := by
  intro f
  induction f with
  | zero => intro a z e l h; simp [take7] at h
  | succ f ih =>
    intro a z e l h
    by_cases hp : a < s.size
    · by_cases hb : s[a].toNat < 128
      · rw [take7_lo hp hb] at h
        simp at h; obtain ⟨rfl, rfl, rfl⟩ := h
        have : 128 ^ 1 ≤ 128 ^ (f + 1) := Nat.pow_le_pow_right (by decide) (by omega)
        refine ⟨by omega, by omega, by omega, by omega, by omega, by omega⟩
      · rw [take7_hi hp hb] at h
        cases h1 : take7 s f (a + 1) with
        | none => rw [h1] at h; simp at h
        | some x =>
          obtain ⟨z1, e1, l1⟩ := x
          rw [h1] at h
          simp at h
          obtain ⟨rfl, rfl, rfl⟩ := h
          have := ih h1
          rw [Nat.pow_succ]
          omega
    · rw [take7_out hp] at h; simp at h

theorem take7_enc {s : ByteArray} : ∀ {f a z e l : Nat}, take7 s f a = some (z, e, l) → (l ≠ 0 ∨ e = a + 1) → (s.data.toList.drop a).take (e - a) = byteL (enc z) := by
  intro f
  induction f with
  | zero => intro a z e l h; simp [take7] at h
  | succ f ih =>
    intro a z e l h hl
    by_cases hp : a < s.size
    · by_cases hb : s[a].toNat < 128
      · rw [take7_lo hp hb] at h
        simp at h; obtain ⟨rfl, rfl, rfl⟩ := h
        rw [enc_lt hb, drop_cons s a hp, show a + 1 - a = 1 by omega]
        simp [byteL]
      · rw [take7_hi hp hb] at h
        cases h1 : take7 s f (a + 1) with
        | none => rw [h1] at h; simp at h
        | some x =>
          obtain ⟨z1, e1, l1⟩ := x
          rw [h1] at h
          simp at h
          obtain ⟨rfl, rfl, rfl⟩ := h
          have hs := take7_span h1
          have hb2 := s[a].toNat_lt
          have hi := ih h1 (by omega)
          rw [enc_ge (by omega), drop_cons s a hp, show e1 - a = (e1 - (a + 1)) + 1 by omega, List.take_succ_cons, hi,
            show (s[a].toNat % 128 + 128 * z1) / 128 = z1 by omega, show (s[a].toNat % 128 + 128 * z1) % 128 + 128 = s[a].toNat by omega]
          simp [byteL]
    · rw [take7_out hp] at h; simp at h

theorem take7_last {s : ByteArray} : ∀ {f a z e l : Nat}, take7 s f a = some (z, e, l) → ((s.data.toList.drop a).take (e - a)).getLast? = some (UInt8.ofNat l) := by
  intro f
  induction f with
  | zero => intro a z e l h; simp [take7] at h
  | succ f ih =>
    intro a z e l h
    by_cases hp : a < s.size
    · by_cases hb : s[a].toNat < 128
      · rw [take7_lo hp hb] at h
        simp at h; obtain ⟨rfl, rfl, rfl⟩ := h
        rw [drop_cons s a hp, show a + 1 - a = 1 by omega]
        simp
      · rw [take7_hi hp hb] at h
        cases h1 : take7 s f (a + 1) with
        | none => rw [h1] at h; simp at h
        | some x =>
          obtain ⟨z1, e1, l1⟩ := x
          rw [h1] at h
          simp at h
          obtain ⟨rfl, rfl, rfl⟩ := h
          have hs := take7_span h1
          have hi := ih h1
          rw [drop_cons s a hp, show e1 - a = (e1 - (a + 1)) + 1 by omega, List.take_succ_cons, List.getLast?_cons, hi]
          rfl
    · rw [take7_out hp] at h; simp at h

theorem enc_last : ∀ (n z : Nat), z ≤ n → 1 ≤ z → ∃ x : Nat, 1 ≤ x ∧ x < 128 ∧ (enc z).getLast? = some (x : Int) := by
  intro n
  induction n with
  | zero => intro z h1 h2; omega
  | succ n ih =>
    intro z h1 h2
    by_cases hz : z < 128
    · exact ⟨z, h2, hz, by rw [enc_lt hz]; rfl⟩
    · obtain ⟨x, hx1, hx2, hx⟩ := ih (z / 128) (by omega) (by omega)
      exact ⟨x, hx1, hx2, by rw [enc_ge (by omega), List.getLast?_cons, hx]; rfl⟩

theorem take7_not_enc {s : ByteArray} {f a z e : Nat} (h : take7 s f a = some (z, e, 0)) (he : a + 1 < e) : (s.data.toList.drop a).take (e - a) ≠ byteL (enc z) := by
  intro hc
  have hs := take7_span h
  have hl := take7_last h
  have h2 : 2 ≤ (enc z).length := by
    have := congrArg List.length hc
    simp [byteL] at this; omega
  have hz : 1 ≤ z := by
    by_cases hz : z < 128
    · rw [enc_lt hz] at h2; simp at h2
    · omega
  obtain ⟨x, hx1, hx2, hx⟩ := enc_last z z (Nat.le_refl _) hz
  rw [hc] at hl
  simp [byteL, List.getLast?_map, hx] at hl
  have := congrArg UInt8.toNat hl
  simp at this; omega

theorem str_ext {s t : ByteArray} (h : s.data.toList = t.data.toList) : s = t := by
  apply ByteArray.ext; exact Array.toList_inj.1 h
theorem str_toList {s t : ByteArray} (h : s.toList = t.toList) : s = t := str_ext (by rw [← Lib.toList_data, ← Lib.toList_data]; exact h)
theorem canon_ok {s : ByteArray} {f a z e l : Nat} (h : take7 s f a = some (z, e, l)) (hb : ¬ (l = 0 ∧ a + 1 < e)) : strOfNums (enc z) = s.extract a e := by
  have hs := take7_span h
  apply str_ext
  rw [strOfNums_list, Lib.extract_data, take7_enc h (by omega)]
theorem canon_bad {s : ByteArray} {f a z e l : Nat} (h : take7 s f a = some (z, e, l)) (hb : l = 0 ∧ a + 1 < e) : strOfNums (enc z) ≠ s.extract a e := by
  intro hc
  obtain ⟨rfl, he⟩ := hb
  have : (strOfNums (enc z)).data.toList = (s.extract a e).data.toList := by rw [hc]
  rw [strOfNums_list, Lib.extract_data] at this
  exact take7_not_enc h he this.symm

theorem zig_unzig (z : Nat) : zig (unzig z) = z := by unfold zig unzig; split <;> split <;> omega
theorem unzig_zig (n : Int) : unzig (zig n) = n := by unfold zig unzig; split <;> split <;> omega
end Go.Proofs.YtgjihgdomicijaaDoor
