import Derived.Test.YtgjihgdomicijaaDoorPlain2
import Derived.Test.YtgjihgdomicijaaDoorL1
import Derived.Deep.CutRange
import Derived.Deep.DeepCutAuto
import Derived.RegionTactic
namespace Go.Proofs.YtgjihgdomicijaaDoor
open Go.RowKit

set_option maxRecDepth 100000 in
set_option maxHeartbeats 2000000 in
theorem law3 (s : ByteArray) (a : Int) (f : Int) (w : World) (hs : s.size ≤ maxLen) (hN : Nib w) (ha0 : -9223372036854775808 ≤ a) (ha1 : a ≤ 9223372036854775807) :
    Calls Tryd.prog 5 #[.string s, .int .i64 a, .int .u8 f] w fun e w' => e = .returned (.bool true) ∧ Below w.heap.size w w' := by
  have hsane := sane_any w hN
  unfold maxLen at hs
  clear hN
  go_enter Tryd.func5, Tryd.ntmps5
  go_wp2_with fail
  refine hsane.mono ?_
  clear hsane
  rintro e w1 ⟨rfl, hB1⟩
  go_upto_region 2 with fail
  go_cut [8] from 22 (fun u8 wc => ∃ t : ByteArray, u8 = .string t ∧ t.size ≤ 301 ∧ Below w.heap.size w wc)
  case first =>
    have hcv : (convert 38 9 (.slice (some ⟨w1.heap.size, 0, none⟩) 1 1)).run Tryd.prog (w1.alloc (.cells #[.int .u8 f] 5)).drew = .ok (.string (strOfNums [f])) (w1.alloc (.cells #[.int .u8 f] 5)).drew :=
      run_convert_bytes_arg (P := Tryd.prog) (w1.alloc (.cells #[.int .u8 f] 5)).drew 38 5 Tryd.underlying38 Tryd.underlying5 w1.heap.size 0 1 1 [f] rfl (fun i hi => by
        obtain rfl : i = 0 := by omega
        exact World.cell?_alloc_at _ _ _ _ rfl) 9 Tryd.underlying9
    have h1 : (strOfNums [f]).size ≤ 1 := by rw [strOfNums_size]; simp
    by_cases h : 300 < s.size
    · go_region
      all_goals go_wp2_with fail
      all_goals go_meet
      all_goals exact ⟨_, rfl, by rw [ByteArray.size_append]; simp [ByteArray.size_extract]; omega, (hB1.alloc hB1.size _).drew⟩
    · go_region
      all_goals go_wp2_with fail
      all_goals go_meet
      all_goals exact ⟨_, rfl, by rw [ByteArray.size_append]; omega, (hB1.alloc hB1.size _).drew⟩
  case rest =>
    obtain ⟨t, rfl, ht, hB2⟩ := hcut
    clear hB1
    have htm : t.size ≤ maxLen := by unfold maxLen; omega
    have hbt := pickS_bd a (t.size + 1) (by omega)
    go_wp2_with fail
    refine (pick_any a _ _ ha0 ha1 (by omega) (by omega)).mono ?_
    rintro e w2 ⟨rfl, rfl⟩
    have hc1 := cells_pair wc 0 (pickS a (t.size + 1)) 3
    have hB7 : Below w.heap.size w (wc.alloc (.cells #[.int .i64 0, .int .i64 (pickS a (t.size + 1))] 3)) := hB2.alloc hB2.size _
    go_wp2_with fail
    obtain ⟨W1, hW1⟩ : ∃ W1, wc.alloc (.cells #[.int .i64 0, .int .i64 (pickS a (t.size + 1))] 3) = W1 := ⟨_, rfl⟩
    have hlt1 : wc.heap.size < W1.heap.size := by rw [← hW1]; simp
    rw [hW1] at hc1 hB7 ⊢
    clear hW1
    have Hc1 := Lib.hid hc1
    clear hc1 hB2
    have hpb : ∀ j, 0 ≤ pairI 0 (pickS a (t.size + 1)) j ∧ pairI 0 (pickS a (t.size + 1)) j ≤ t.size := by
      intro j; unfold pairI; split <;> omega
    go_loopw [10, 11, 12, 13, 14, 15, 16, 17, 18, 19, 20, 38] (fun _ _ _ _ _ _ _ _ _ _ _ u38 wr => ∃ k : Nat, k ≤ 2 ∧ u38 = .int .i64 k ∧ Below W1.heap.size W1 wr) (fun _ _ _ _ _ _ _ _ _ _ _ u38 _ => (2 - intOf u38).toNat)
    case atStart => exact ⟨0, by omega, rfl, Below.refl _ _⟩
    case round =>
      obtain ⟨k, hk, rfl, hBr⟩ := hrel
      by_cases hk2 : k < 2
      · have hcell := (hBr.cell (p := ⟨wc.heap.size, k, none⟩) hlt1).trans (Hc1.out k hk2)
        obtain ⟨hp0, hp1⟩ := hpb k
        obtain ⟨m, hm⟩ := Int.eq_ofNat_of_zero_le hp0
        rw [hm] at hcell hp1
        clear hpb hm hp0
        have hmt : m ≤ t.size := by omega
        have hU := fun W => intU t m W htm (by omega) (by omega)
        have hV := fun W => strU t m W htm (by omega) (by omega)
        rcases int_unique t m hmt with ⟨e1, e2, e3⟩ | ⟨n, e, e1, e2, e3, he1, he2, he3, he4, hn0, hn1⟩
        · simp only [e1, e2, e3] at hU
          clear e1 e2 e3
          have hP := fun W => putU 0 W
          rcases str_unique t m hmt with ⟨e1, e2, e3⟩ | ⟨v, d, e1, e2, e3, hd1, hd2, hd3, hd4, hv⟩
          · simp only [e1, e2, e3] at hV
            clear e1 e2 e3
            have hQ := fun W => putsU ⟨#[]⟩ W (by decide)
            have HU := Lib.hid hU; have HV := Lib.hid hV; have HP := Lib.hid hP; have HQ := Lib.hid hQ
            clear hU hV hP hQ
            go_wp2_with fail
            refine (HU.out _).mono ?_
            rintro e w3 ⟨rfl, rfl⟩
            go_wp2_with fail
            refine (HP.out _).mono ?_
            rintro e w4 ⟨rfl, hB4⟩
            go_wp2_with fail
            refine (HV.out _).mono ?_
            rintro e w5 ⟨rfl, rfl⟩
            go_wp2_with fail
            refine (HQ.out _).mono ?_
            rintro e w6 ⟨rfl, hB6⟩
            go_wp2_with fail
            go_roundw
            case rel => exact ⟨k + 1, by omega, by go_num, (hBr.trans (hB4.mono hBr.size)).trans (hB6.mono (Nat.le_trans hBr.size hB4.size))⟩
            case measure => simp [intOf]; omega
          · simp only [e1, e2, e3] at hV
            clear e1 e2 e3
            have hQ := fun W => putsU v W (by unfold maxLen; omega)
            simp only [hd3, hd4] at hQ
            clear hd3 hd4
            have hsl2 : ∀ W : World, (Instr.slice 9 (.string t) (some (.int .i64 (m : Int))) (some (.int .i64 (d : Int))) none).run Tryd.prog W = .ok (.string (t.extract m d)) W := fun W => by
              have := run_slice_string (P := Tryd.prog) W 9 t .i64 .i64 (m : Int) (d : Int) Tryd.underlying9 (by omega) (by omega) (by omega)
              rw [this]; rfl
            have HU := Lib.hid hU; have HV := Lib.hid hV; have HP := Lib.hid hP; have HQ := Lib.hid hQ
            clear hU hV hP hQ
            go_wp2_with fail
            refine (HU.out _).mono ?_
            rintro e w3 ⟨rfl, rfl⟩
            go_wp2_with fail
            refine (HP.out _).mono ?_
            rintro e w4 ⟨rfl, hB4⟩
            go_wp2_with fail
            refine (HV.out _).mono ?_
            rintro e w5 ⟨rfl, rfl⟩
            go_wp2_with fail
            refine (HQ.out _).mono ?_
            rintro e w6 ⟨rfl, hB6⟩
            go_wp2_with fail
            go_roundw
            case rel => exact ⟨k + 1, by omega, by go_num, (hBr.trans (hB4.mono hBr.size)).trans (hB6.mono (Nat.le_trans hBr.size hB4.size))⟩
            case measure => simp [intOf]; omega
        · simp only [e1, e2, e3] at hU
          clear e1 e2 e3
          have hP := fun W => putU n W
          simp only [he3, he4] at hP
          clear he3 he4
          rcases str_unique t m hmt with ⟨e1, e2, e3⟩ | ⟨v, d, e1, e2, e3, hd1, hd2, hd3, hd4, hv⟩
          · simp only [e1, e2, e3] at hV
            clear e1 e2 e3
            have hQ := fun W => putsU ⟨#[]⟩ W (by decide)
            have hsl1 : ∀ W : World, (Instr.slice 9 (.string t) (some (.int .i64 (m : Int))) (some (.int .i64 (e : Int))) none).run Tryd.prog W = .ok (.string (t.extract m e)) W := fun W => by
              have := run_slice_string (P := Tryd.prog) W 9 t .i64 .i64 (m : Int) (e : Int) Tryd.underlying9 (by omega) (by omega) (by omega)
              rw [this]; rfl
            have HU := Lib.hid hU; have HV := Lib.hid hV; have HP := Lib.hid hP; have HQ := Lib.hid hQ
            clear hU hV hP hQ
            go_wp2_with fail
            refine (HU.out _).mono ?_
            rintro e w3 ⟨rfl, rfl⟩
            go_wp2_with fail
            refine (HP.out _).mono ?_
            rintro e w4 ⟨rfl, hB4⟩
            go_wp2_with fail
            refine (HV.out _).mono ?_
            rintro e w5 ⟨rfl, rfl⟩
            go_wp2_with fail
            refine (HQ.out _).mono ?_
            rintro e w6 ⟨rfl, hB6⟩
            go_wp2_with fail
            go_roundw
            case rel => exact ⟨k + 1, by omega, by go_num, (hBr.trans (hB4.mono hBr.size)).trans (hB6.mono (Nat.le_trans hBr.size hB4.size))⟩
            case measure => simp [intOf]; omega
          · simp only [e1, e2, e3] at hV
            clear e1 e2 e3
            have hQ := fun W => putsU v W (by unfold maxLen; omega)
            simp only [hd3, hd4] at hQ
            clear hd3 hd4
            have hsl1 : ∀ W : World, (Instr.slice 9 (.string t) (some (.int .i64 (m : Int))) (some (.int .i64 (e : Int))) none).run Tryd.prog W = .ok (.string (t.extract m e)) W := fun W => by
              have := run_slice_string (P := Tryd.prog) W 9 t .i64 .i64 (m : Int) (e : Int) Tryd.underlying9 (by omega) (by omega) (by omega)
              rw [this]; rfl
            have hsl2 : ∀ W : World, (Instr.slice 9 (.string t) (some (.int .i64 (m : Int))) (some (.int .i64 (d : Int))) none).run Tryd.prog W = .ok (.string (t.extract m d)) W := fun W => by
              have := run_slice_string (P := Tryd.prog) W 9 t .i64 .i64 (m : Int) (d : Int) Tryd.underlying9 (by omega) (by omega) (by omega)
              rw [this]; rfl
            have HU := Lib.hid hU; have HV := Lib.hid hV; have HP := Lib.hid hP; have HQ := Lib.hid hQ
            clear hU hV hP hQ
            go_wp2_with fail
            refine (HU.out _).mono ?_
            rintro e w3 ⟨rfl, rfl⟩
            go_wp2_with fail
            refine (HP.out _).mono ?_
            rintro e w4 ⟨rfl, hB4⟩
            go_wp2_with fail
            refine (HV.out _).mono ?_
            rintro e w5 ⟨rfl, rfl⟩
            go_wp2_with fail
            refine (HQ.out _).mono ?_
            rintro e w6 ⟨rfl, hB6⟩
            go_wp2_with fail
            go_roundw
            case rel => exact ⟨k + 1, by omega, by go_num, (hBr.trans (hB4.mono hBr.size)).trans (hB6.mono (Nat.le_trans hBr.size hB4.size))⟩
            case measure => simp [intOf]; omega
      · go_wp2
        go_ret
        exact ⟨rfl, hB7.trans (hBr.mono hB7.size)⟩
end Go.Proofs.YtgjihgdomicijaaDoor
