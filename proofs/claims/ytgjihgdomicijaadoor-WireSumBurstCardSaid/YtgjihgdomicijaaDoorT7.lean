import Derived.Test.YtgjihgdomicijaaDoorT4
import Derived.Test.YtgjihgdomicijaaDoorT6
namespace Go.Proofs.YtgjihgdomicijaaDoor
open Go.RowKit

def strS (s : ByteArray) : Value := .tuple #[.string (strOfNums (enc (zig s.size)) ++ s), .int .i64 0]

set_option maxRecDepth 100000 in
theorem puts_no (s : ByteArray) (w : World) (hs : s.size ≤ maxLen) (h : 65536 < s.size) :
    Calls Tryd.prog 19 #[.string s] w fun e w' => e = .returned (.tuple #[.string ⟨#[]⟩, .int .i64 10]) ∧ w = w' := by
  unfold maxLen at hs
  go_enter Tryd.func19, Tryd.ntmps19
  go_wp2
  go_ret2
  exact ⟨rfl, rfl⟩

set_option maxRecDepth 100000 in
theorem puts_yes (s : ByteArray) (w : World) (h : s.size ≤ 65536) :
    Calls Tryd.prog 19 #[.string s] w fun e w' => e = .returned (strS s) ∧ Below w.heap.size w w' := by
  have hl := enc_zig_len (n := (s.size : Int)) (by omega) (by omega)
  have hsz : (strOfNums (enc (zig s.size))).size ≤ 9 := by rw [strOfNums_size]; exact hl
  go_enter Tryd.func19, Tryd.ntmps19
  go_wp2_with fail
  refine (put_yes _ _ (by omega) (by omega)).mono ?_
  rintro e w' ⟨rfl, hB⟩
  go_wp2
  go_ret2
  exact ⟨rfl, hB⟩

set_option maxRecDepth 100000 in
theorem rputs_no (s : ByteArray) (w : World) (hs : s.size ≤ maxLen) (h : 65536 < s.size) :
    Calls Tryd.prog 20 #[.string s] w fun e w' => e = .returned (.tuple #[.string ⟨#[]⟩, .int .i64 10]) ∧ w = w' := by
  unfold maxLen at hs
  go_enter Tryd.func20, Tryd.ntmps20
  go_wp2
  go_ret2
  exact ⟨rfl, rfl⟩

set_option maxRecDepth 100000 in
theorem rputs_yes (s : ByteArray) (w : World) (h : s.size ≤ 65536) :
    Calls Tryd.prog 20 #[.string s] w fun e w' => e = .returned (strS s) ∧ Below w.heap.size w w' := by
  have hl := enc_zig_len (n := (s.size : Int)) (by omega) (by omega)
  have hsz : (strOfNums (enc (zig s.size))).size ≤ 9 := by rw [strOfNums_size]; exact hl
  go_enter Tryd.func20, Tryd.ntmps20
  go_wp2_with fail
  refine (rput_yes _ _ (by omega) (by omega)).mono ?_
  rintro e w' ⟨rfl, hB⟩
  go_wp2
  go_ret2
  exact ⟨rfl, hB⟩

/-- What String returns behind what Int has returned. -/
def strI (s : ByteArray) (x : Int × Int × Int) : Value :=
  if x.2.2 ≠ 0 then .tuple #[.string ⟨#[]⟩, .int .i64 0, .int .i64 x.2.2]
  else if x.1 < 0 ∨ 65536 < x.1 ∨ (s.size : Int) - x.2.1 < x.1 then .tuple #[.string ⟨#[]⟩, .int .i64 0, .int .i64 10]
  else .tuple #[.string (s.extract x.2.1.toNat (x.2.1 + x.1).toNat), .int .i64 (x.2.1 + x.1), .int .i64 0]

theorem intS_cases (s : ByteArray) (a : Nat) : intS s a = (0, 0, 10) ∨ ∃ (n : Int) (e : Nat), intS s a = (n, (e : Int), 0) ∧ a < e ∧ e ≤ s.size ∧ -4611686018427387903 ≤ n ∧ n ≤ 4611686018427387903 := by
  unfold intS
  split
  · exact .inl rfl
  · rename_i z e l h
    have hs := take7_span h
    have hb := unzig_bd z (by have := hs.2.2.2.2.2; have e9 : 128 ^ 9 = 9223372036854775808 := by decide
                              omega)
    split
    · exact .inl rfl
    · exact .inr ⟨_, e, rfl, hs.1, hs.2.1, by omega, by omega⟩

set_option maxRecDepth 100000 in
theorem str_arg (s : ByteArray) (a : Int) (w : World) (hs : s.size ≤ maxLen) (h : a < 0 ∨ s.size < a) (h0 : -9223372036854775808 ≤ a) (h1 : a ≤ 9223372036854775807) :
    Calls Tryd.prog 17 #[.string s, .int .i64 a] w fun e w' => e = .returned (strI s (0, 0, 2)) ∧ w = w' := by
  go_enter Tryd.func17, Tryd.ntmps17
  go_wp2_with fail
  refine (int_arg s a _ hs h h0 h1).mono ?_
  rintro e w' ⟨rfl, rfl⟩
  unfold int3
  go_wp2
  go_ret3
  exact ⟨rfl, rfl⟩

set_option maxRecDepth 100000 in
set_option maxHeartbeats 400000 in
theorem str_any (s : ByteArray) (a : Nat) (w : World) (hs : s.size ≤ maxLen) (h : a ≤ s.size) :
    Calls Tryd.prog 17 #[.string s, .int .i64 a] w fun e w' => e = .returned (strI s (intS s a)) ∧ w = w' := by
  have hi := fun W => int_any s a W hs h
  unfold maxLen at hs
  rcases intS_cases s a with hc | ⟨n, e, hc, h1, h2, h3, h4⟩
  · rw [hc] at hi ⊢
    clear hc
    go_enter Tryd.func17, Tryd.ntmps17
    go_wp2_with fail
    refine (hi _).mono ?_
    clear hi
    rintro e w' ⟨rfl, rfl⟩
    unfold int3
    go_wp2
    go_ret3
    exact ⟨rfl, rfl⟩
  · rw [hc] at hi ⊢
    clear hc
    by_cases hb : n < 0 ∨ 65536 < n ∨ (s.size : Int) - e < n
    · have HR : Hid (strI s (n, (e : Int), 0) = .tuple #[.string ⟨#[]⟩, .int .i64 0, .int .i64 10]) := by
        unfold strI; rw [if_neg (by simp), if_pos hb]; exact Eq.refl _
      by_cases hn : n < 0
      · go_enter Tryd.func17, Tryd.ntmps17
        go_wp2_with fail
        refine (hi _).mono ?_
        clear hi hb
        rintro e w' ⟨rfl, rfl⟩
        unfold int3
        go_wp2
        go_ret3
        exact ⟨by rw [HR.out]; rfl, rfl⟩
      · by_cases hn2 : 65536 < n
        · go_enter Tryd.func17, Tryd.ntmps17
          go_wp2_with fail
          refine (hi _).mono ?_
          clear hi hb
          rintro e w' ⟨rfl, rfl⟩
          unfold int3
          go_wp2
          go_ret3
          exact ⟨by rw [HR.out]; rfl, rfl⟩
        · have hn3 : (s.size : Int) - e < n := by omega
          go_enter Tryd.func17, Tryd.ntmps17
          go_wp2_with fail
          refine (hi _).mono ?_
          clear hi hb
          rintro e w' ⟨rfl, rfl⟩
          unfold int3
          go_wp2
          go_ret3
          exact ⟨by rw [HR.out]; rfl, rfl⟩
    · have HR : Hid (strI s (n, (e : Int), 0) = .tuple #[.string (s.extract e (e + n.toNat)), .int .i64 (e + n), .int .i64 0]) := by
        unfold strI; rw [if_neg (by simp), if_neg hb]
        simp only
        rw [show ((e : Int)).toNat = e by omega, show ((e : Int) + n).toNat = e + n.toNat by omega]
        exact Eq.refl _
      obtain ⟨m, rfl⟩ := Int.eq_ofNat_of_zero_le (show 0 ≤ n by omega)
      have hb1 : (m : Int) ≤ 65536 := by omega
      have hb2 : (m : Int) ≤ (s.size : Int) - e := by omega
      clear hb
      have hsl : ∀ W : World, (Instr.slice 9 (.string s) (some (.int .i64 (e : Int))) (some (.int .i64 ((e : Int) + (m : Int)))) none).run Tryd.prog W = .ok (.string (s.extract e (e + m))) W := fun W => by
        have := run_slice_string (P := Tryd.prog) W 9 s .i64 .i64 (e : Int) ((e : Int) + (m : Int)) Tryd.underlying9 (by omega) (by omega) (by omega)
        rw [this]; rfl
      go_enter Tryd.func17, Tryd.ntmps17
      go_wp2_with fail
      refine (hi _).mono ?_
      clear hi
      rintro e w' ⟨rfl, rfl⟩
      unfold int3
      go_wp2
      go_ret3
      exact ⟨by rw [HR.out]; rfl, rfl⟩

set_option maxRecDepth 100000 in
theorem rstr_arg (s : ByteArray) (a : Int) (w : World) (hs : s.size ≤ maxLen) (h : a < 0 ∨ s.size < a) (h0 : -9223372036854775808 ≤ a) (h1 : a ≤ 9223372036854775807) :
    Calls Tryd.prog 18 #[.string s, .int .i64 a] w fun e w' => e = .returned (strI s (0, 0, 2)) ∧ w = w' := by
  go_enter Tryd.func18, Tryd.ntmps18
  go_wp2_with fail
  refine (rint_arg s a _ hs h h0 h1).mono ?_
  rintro e w' ⟨rfl, rfl⟩
  unfold int3
  go_wp2
  go_ret3
  exact ⟨rfl, rfl⟩

set_option maxRecDepth 100000 in
set_option maxHeartbeats 400000 in
theorem rstr_any (s : ByteArray) (a : Nat) (w : World) (hs : s.size ≤ maxLen) (h : a ≤ s.size) :
    Calls Tryd.prog 18 #[.string s, .int .i64 a] w fun e w' => e = .returned (strI s (intS s a)) ∧ Below w.heap.size w w' := by
  have hi := fun W => rint_any s a W hs h
  unfold maxLen at hs
  rcases intS_cases s a with hc | ⟨n, e, hc, h1, h2, h3, h4⟩
  · rw [hc] at hi ⊢
    clear hc
    go_enter Tryd.func18, Tryd.ntmps18
    go_wp2_with fail
    refine (hi _).mono ?_
    clear hi
    rintro e w' ⟨rfl, hB⟩
    unfold int3
    go_wp2
    go_ret3
    exact ⟨rfl, hB⟩
  · rw [hc] at hi ⊢
    clear hc
    by_cases hb : n < 0 ∨ 65536 < n ∨ (s.size : Int) - e < n
    · have HR : Hid (strI s (n, (e : Int), 0) = .tuple #[.string ⟨#[]⟩, .int .i64 0, .int .i64 10]) := by
        unfold strI; rw [if_neg (by simp), if_pos hb]; exact Eq.refl _
      by_cases hn : n < 0
      · go_enter Tryd.func18, Tryd.ntmps18
        go_wp2_with fail
        refine (hi _).mono ?_
        clear hi hb
        rintro e w' ⟨rfl, hB⟩
        unfold int3
        go_wp2
        go_ret3
        exact ⟨by rw [HR.out]; rfl, hB⟩
      · by_cases hn2 : 65536 < n
        · go_enter Tryd.func18, Tryd.ntmps18
          go_wp2_with fail
          refine (hi _).mono ?_
          clear hi hb
          rintro e w' ⟨rfl, hB⟩
          unfold int3
          go_wp2
          go_ret3
          exact ⟨by rw [HR.out]; rfl, hB⟩
        · have hn3 : (s.size : Int) - e < n := by omega
          go_enter Tryd.func18, Tryd.ntmps18
          go_wp2_with fail
          refine (hi _).mono ?_
          clear hi hb
          rintro e w' ⟨rfl, hB⟩
          unfold int3
          go_wp2
          go_ret3
          exact ⟨by rw [HR.out]; rfl, hB⟩
    · have HR : Hid (strI s (n, (e : Int), 0) = .tuple #[.string (s.extract e (e + n.toNat)), .int .i64 (e + n), .int .i64 0]) := by
        unfold strI; rw [if_neg (by simp), if_neg hb]
        simp only
        rw [show ((e : Int)).toNat = e by omega, show ((e : Int) + n).toNat = e + n.toNat by omega]
        exact Eq.refl _
      obtain ⟨m, rfl⟩ := Int.eq_ofNat_of_zero_le (show 0 ≤ n by omega)
      have hb1 : (m : Int) ≤ 65536 := by omega
      have hb2 : (m : Int) ≤ (s.size : Int) - e := by omega
      clear hb
      have hsl : ∀ W : World, (Instr.slice 9 (.string s) (some (.int .i64 (e : Int))) (some (.int .i64 ((e : Int) + (m : Int)))) none).run Tryd.prog W = .ok (.string (s.extract e (e + m))) W := fun W => by
        have := run_slice_string (P := Tryd.prog) W 9 s .i64 .i64 (e : Int) ((e : Int) + (m : Int)) Tryd.underlying9 (by omega) (by omega) (by omega)
        rw [this]; rfl
      go_enter Tryd.func18, Tryd.ntmps18
      go_wp2_with fail
      refine (hi _).mono ?_
      clear hi
      rintro e w' ⟨rfl, hB⟩
      unfold int3
      go_wp2
      go_ret3
      exact ⟨by rw [HR.out]; rfl, hB⟩
end Go.Proofs.YtgjihgdomicijaaDoor
