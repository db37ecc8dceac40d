/- nadirlaw03: IntegerText. -/
import Derived.Test.YtjnpenljgfdaiaaGreatDoorLK
namespace Go.Proofs.YtjnpenljgfdaiaaGreatDoor
open Go.RowKit Go.Shelf Lib

theorem i64_bd {x : Int} (h : (Lit.int .i64 x).wf = true) : -9223372036854775808 ≤ x ∧ x ≤ 9223372036854775807 := by
  simp [Lit.wf, IntKind.min, IntKind.max, IntKind.signed, IntKind.bits] at h
  exact ⟨by omega, by omega⟩
set_option maxRecDepth 100000 in
set_option maxHeartbeats 4000000 in
theorem text_good (n : Int) (s t : ByteArray) (c : Nat) (w : World) (l0 : -9223372036854775808 ≤ n) (u0 : n ≤ 9223372036854775807) (hs : s.size ≤ 9223372036854775807) (hc : c = min s.size 30) (ht : t = s.extract 0 c) (hb : (N3.okS t && N3.inM (N3.iV t)) = true) (he : EnvW w) :
    Calls Tryz.prog 13 #[.int .i64 n, .string s] w fun e w' => e = .returned (.bool true) ∧ Below w.heap.size w w' := by
  have HE := Lib.hid he
  have F0 := Lib.hid (fun V (_ : EnvW V) => sane_true V ‹EnvW V›)
  have hbig : (9223372036854775808 : Nat) < N3.lim := by decide
  have ln : n.natAbs < N3.lim := by omega
  have hts : t.size ≤ 30 := by rw [ht, ByteArray.size_extract]; omega
  have hmin : ∀ (ts : Array TypeId) (t : TypeId) (W : World), (Builtin.min_ ts t #[.int .i64 (s.size : Int), .int .i64 30]).run Tryz.prog W = .ok (.int .i64 (c : Int)) W := by
    intro ts t W
    simp only [Builtin.min_, Builtin.min2, List.foldlM_cons, List.foldlM_nil, Sem.run_bind, Sem.run_pure, Result.andThen]
    congr 2
    omega
  have hsl : ∀ W : World, (Instr.slice 9 (.string s) none (some (.int .i64 (c : Int))) none).run Tryz.prog W = .ok (.string t) W := fun W => by
    have := run_slice_string_h (P := Tryz.prog) W 9 s Tryz.underlying9 .i64 (c : Int) (by omega) (by omega)
    rw [this, ht]; rfl
  have FN := Lib.hid (fun V (hV : EnvW V) => fromInt_f n l0 u0 V hV)
  have TN := Lib.hid (fun V (hV : EnvW V) => toInt_s l0 u0 V hV)
  have VN := Lib.hid (fun V (hV : EnvW V) => valid_s ln V)
  have e1 : N3.toE t = 0 := by unfold N3.toE; rw [hb]; rfl
  have e2 : N3.toM t = N3.iV t := by unfold N3.toM; rw [hb]; rfl
  have TS := Lib.hid (fun V (hV : EnvW V) => by have k := toInt_f t V (by omega) hV; rw [e1, e2] at k; exact k)
  have ok := (Bool.and_eq_true _ _ ▸ hb : N3.okS t = true ∧ N3.inM (N3.iV t) = true)
  have hm := ok.2
  unfold N3.inM at hm
  rw [Bool.and_eq_true, decide_eq_true_eq, decide_eq_true_eq] at hm
  have VS := Lib.hid (fun V (hV : EnvW V) => by have k := valid_f t V (by omega); rw [ok.1] at k; exact k)
  have FS := Lib.hid (fun V (hV : EnvW V) => by have k := fromInt_f (N3.iV t) hm.1 hm.2 V hV; rw [N3.S_iV ok.1] at k; exact k)
  clear ok
  generalize N3.S n = sn at *
  generalize N3.iV t = z at *
  obtain ⟨hm0, hm1⟩ := hm
  clear he hbig ln hts ht hc hb e1 e2
  go_enter Tryz.func13, Tryz.ntmps13
  go_wp2_with omega
  refine (F0.out _ HE.out).mono ?_
  rintro e W1 ⟨rfl, hb1⟩
  have hB1 := hb1
  go_wp2_with omega
  refine (FN.out _ (HE.out.below hB1)).mono ?_
  rintro e W2 ⟨rfl, hb2⟩
  have hB2 := hB1.trans (hb2.mono hB1.size)
  go_wp2_with omega
  refine (TN.out _ (HE.out.below hB2)).mono ?_
  rintro e W3 ⟨rfl, hb3⟩
  have hB3 := hB2.trans (hb3.mono hB2.size)
  go_wp2_with omega
  refine (TS.out _ (HE.out.below hB3)).mono ?_
  rintro e W4 ⟨rfl, hb4⟩
  have hB4 := hB3.trans (hb4.mono hB3.size)
  go_wp2_with omega
  refine (VN.out _ (HE.out.below hB4)).mono ?_
  rintro e W5 ⟨rfl, hb5⟩
  have hB5 := hB4.trans (hb5.mono hB4.size)
  go_wp2_with omega
  refine (VS.out _ (HE.out.below hB5)).mono ?_
  rintro e W6 ⟨rfl, hb6⟩
  have hB6 := hB5.trans (hb6.mono hB5.size)
  go_wp2_with omega
  refine (FS.out _ (HE.out.below hB6)).mono ?_
  rintro e W7 ⟨rfl, hb7⟩
  have hB7 := hB6.trans (hb7.mono hB6.size)
  go_wp2_with omega
  go_ret
  exact ⟨rfl, hB7⟩
set_option maxRecDepth 100000 in
set_option maxHeartbeats 4000000 in
theorem text_bad (n : Int) (s t : ByteArray) (c : Nat) (w : World) (l0 : -9223372036854775808 ≤ n) (u0 : n ≤ 9223372036854775807) (hs : s.size ≤ 9223372036854775807) (hc : c = min s.size 30) (ht : t = s.extract 0 c) (hb : (N3.okS t && N3.inM (N3.iV t)) = false) (he : EnvW w) :
    Calls Tryz.prog 13 #[.int .i64 n, .string s] w fun e w' => e = .returned (.bool true) ∧ Below w.heap.size w w' := by
  have HE := Lib.hid he
  have F0 := Lib.hid (fun V (_ : EnvW V) => sane_true V ‹EnvW V›)
  have hbig : (9223372036854775808 : Nat) < N3.lim := by decide
  have ln : n.natAbs < N3.lim := by omega
  have hts : t.size ≤ 30 := by rw [ht, ByteArray.size_extract]; omega
  have hmin : ∀ (ts : Array TypeId) (t : TypeId) (W : World), (Builtin.min_ ts t #[.int .i64 (s.size : Int), .int .i64 30]).run Tryz.prog W = .ok (.int .i64 (c : Int)) W := by
    intro ts t W
    simp only [Builtin.min_, Builtin.min2, List.foldlM_cons, List.foldlM_nil, Sem.run_bind, Sem.run_pure, Result.andThen]
    congr 2
    omega
  have hsl : ∀ W : World, (Instr.slice 9 (.string s) none (some (.int .i64 (c : Int))) none).run Tryz.prog W = .ok (.string t) W := fun W => by
    have := run_slice_string_h (P := Tryz.prog) W 9 s Tryz.underlying9 .i64 (c : Int) (by omega) (by omega)
    rw [this, ht]; rfl
  have FN := Lib.hid (fun V (hV : EnvW V) => fromInt_f n l0 u0 V hV)
  have TN := Lib.hid (fun V (hV : EnvW V) => toInt_s l0 u0 V hV)
  have VN := Lib.hid (fun V (hV : EnvW V) => valid_s ln V)
  have e1 : N3.toE t = 30 := by unfold N3.toE; rw [hb]; rfl
  have e2 : N3.toM t = 0 := by unfold N3.toM; rw [hb]; rfl
  have TS := Lib.hid (fun V (hV : EnvW V) => by have k := toInt_f t V (by omega) hV; rw [e1, e2] at k; exact k)
  generalize N3.S n = sn at *
  clear he hbig ln hts ht hc hb e1 e2
  go_enter Tryz.func13, Tryz.ntmps13
  go_wp2_with omega
  refine (F0.out _ HE.out).mono ?_
  rintro e W1 ⟨rfl, hb1⟩
  have hB1 := hb1
  go_wp2_with omega
  refine (FN.out _ (HE.out.below hB1)).mono ?_
  rintro e W2 ⟨rfl, hb2⟩
  have hB2 := hB1.trans (hb2.mono hB1.size)
  go_wp2_with omega
  refine (TN.out _ (HE.out.below hB2)).mono ?_
  rintro e W3 ⟨rfl, hb3⟩
  have hB3 := hB2.trans (hb3.mono hB2.size)
  go_wp2_with omega
  refine (TS.out _ (HE.out.below hB3)).mono ?_
  rintro e W4 ⟨rfl, hb4⟩
  have hB4 := hB3.trans (hb4.mono hB3.size)
  go_wp2_with omega
  refine (VN.out _ (HE.out.below hB4)).mono ?_
  rintro e W5 ⟨rfl, hb5⟩
  have hB5 := hB4.trans (hb5.mono hB4.size)
  go_wp2_with omega
  go_ret
  exact ⟨rfl, hB5⟩
theorem law_text (n : Int) (s : ByteArray) (w : World) (l0 : -9223372036854775808 ≤ n) (u0 : n ≤ 9223372036854775807) (hs : s.size ≤ 9223372036854775807) (he : EnvW w) :
    Calls Tryz.prog 13 #[.int .i64 n, .string s] w fun e w' => e = .returned (.bool true) ∧ Below w.heap.size w w' := by
  cases hb : (N3.okS (s.extract 0 (min s.size 30)) && N3.inM (N3.iV (s.extract 0 (min s.size 30)))) with
  | true => exact text_good n s _ _ w l0 u0 hs rfl rfl hb he
  | false => exact text_bad n s _ _ w l0 u0 hs rfl rfl hb he
end Go.Proofs.YtjnpenljgfdaiaaGreatDoor
