import Derived.Test.YtgjihgdomicijaaDoorPlain2
import Derived.Deep.CutRange
import Derived.Deep.DeepCutAuto
namespace Go.Proofs.YtgjihgdomicijaaDoor
open Go.RowKit

set_option maxRecDepth 100000 in
set_option maxHeartbeats 2000000 in
theorem law2 (c : Int) (s p0 q0 : ByteArray) (w : World) (hs : s.size ≤ maxLen) (hp : p0.size ≤ maxLen) (hq : q0.size ≤ maxLen) (hN : Nib w) (hc0 : -9223372036854775808 ≤ c) (hc1 : c ≤ 9223372036854775807) :
    Calls Tryd.prog 4 #[.int .i64 c, .string s, .agg #[.string p0, .string q0]] w fun e w' => e = .returned (.bool true) ∧ Below w.heap.size w w' := by
  have hb0 : Below w.heap.size w (w.alloc (.cells #[.string p0, .string q0] 36)) := (Below.refl _ _).alloc (Nat.le_refl _) _
  have hsane := sane_any _ (hN.below hb0)
  have hcp : (w.alloc (.cells #[.string p0, .string q0] 36)).cell? ⟨w.heap.size, 0, none⟩ = some (.string p0) := World.cell?_alloc_at _ _ _ _ rfl
  have hcq : (w.alloc (.cells #[.string p0, .string q0] 36)).cell? ⟨w.heap.size, 1, none⟩ = some (.string q0) := World.cell?_alloc_at _ _ _ _ rfl
  unfold maxLen at hs hp hq
  have hnb := numberS_bd c
  have Hnum := fun W => number_any c W hc0 hc1
  have hE0 := (encT_eq (n := numberS c) (by omega) (by omega)).2
  generalize numberS c = n at hnb Hnum hE0
  clear hN
  go_enter Tryd.func4, Tryd.ntmps4
  go_wp2_with fail
  refine hsane.mono ?_
  clear hsane
  rintro e w1 ⟨rfl, hB1⟩
  have hcp1 := (hB1.cell (p := ⟨w.heap.size, 0, none⟩) (by simp)).trans hcp
  have hcq1 := (hB1.cell (p := ⟨w.heap.size, 1, none⟩) (by simp)).trans hcq
  have hB2 : Below w.heap.size w w1 := hb0.trans (hB1.mono hb0.size)
  have hlt : w.heap.size < w1.heap.size := by have := hB1.size; simp at this; omega
  clear hcp hcq hB1 hb0
  go_wp2_with fail
  refine (Hnum _).mono ?_
  clear Hnum
  rintro e w2 ⟨rfl, hB3⟩
  have hcp2 := (hB3.cell (p := ⟨w.heap.size, 0, none⟩) hlt).trans hcp1
  have hcq2 := (hB3.cell (p := ⟨w.heap.size, 1, none⟩) hlt).trans hcq1
  have hB4 := hB2.trans (hB3.mono hB2.size)
  clear hcp1 hcq1 hB3 hB2 hlt
  go_upto_region 3 with fail
  go_cut [9] from 25 (fun u9 wc => ∃ t : ByteArray, u9 = .string t ∧ t.size ≤ 200 ∧ wc = w2)
  case first =>
    go_wp2_with fail
    all_goals go_meet
    · exact ⟨_, rfl, by simp [ByteArray.size_extract]; omega, rfl⟩
    · exact ⟨_, rfl, by omega, rfl⟩
  case rest =>
    obtain ⟨p, rfl, hpt, rfl⟩ := hcut
    go_upto_region 4 with fail
    go_cut [10] from 32 (fun u10 wx => ∃ t : ByteArray, u10 = .string t ∧ t.size ≤ 200 ∧ wx = wc)
    case first =>
      go_wp2_with fail
      all_goals go_meet
      · exact ⟨_, rfl, by simp [ByteArray.size_extract]; omega, rfl⟩
      · exact ⟨_, rfl, by omega, rfl⟩
    case rest =>
      obtain ⟨q, rfl, hqt, rfl⟩ := hcut
      go_upto_region 5 with fail
      go_cut [11] from 39 (fun u11 wx => ∃ t : ByteArray, u11 = .string t ∧ t.size ≤ 200 ∧ wx = wc)
      case first =>
        go_wp2_with fail
        all_goals go_meet
        · exact ⟨_, rfl, by simp [ByteArray.size_extract]; omega, rfl⟩
        · exact ⟨_, rfl, by omega, rfl⟩
      case rest =>
        obtain ⟨t, rfl, htt, rfl⟩ := hcut
        have hP0 : putsE t = 0 := by unfold putsE; rw [if_pos (by omega)]
        have hes := encT_size n
        have hps : (putsT t).size ≤ 209 := by
          unfold putsT; rw [if_pos (by omega), ByteArray.size_append, strOfNums_size]
          have := enc_zig_len (n := (t.size : Int)) (by omega) (by omega)
          omega
        have hI : ∀ W, Calls Tryd.prog 15 #[.string (p ++ encT n ++ q), .int .i64 p.size] W fun e w' => e = .returned (.tuple #[.int .i64 n, .int .i64 ((p.size : Int) + (encT n).size), .int .i64 0]) ∧ W = w' := fun W => by
          have h := intT_at (s := p ++ encT n ++ q) (a := p.size) (n := n) (r := q.data.toList) (by omega) (by omega) (by rw [ByteArray.append_assoc, drop_append, data_append])
          refine (intU (p ++ encT n ++ q) p.size W (by unfold maxLen; simp only [ByteArray.size_append]; omega) (by omega) (by omega)).mono fun e w' ⟨he, hw⟩ => ⟨?_, hw⟩
          rw [he]; unfold intN intE intC; rw [h]; simp
        have hSt : ∀ W, Calls Tryd.prog 17 #[.string (p ++ putsT t ++ q), .int .i64 p.size] W fun e w' => e = .returned (.tuple #[.string t, .int .i64 ((p.size : Int) + (putsT t).size), .int .i64 0]) ∧ W = w' := fun W => by
          obtain ⟨h1, h2, h3⟩ := strV_at (s := p ++ putsT t ++ q) (a := p.size) (t := t) (r := q.data.toList) (by omega) (by rw [ByteArray.append_assoc, drop_append, data_append])
          refine (strU (p ++ putsT t ++ q) p.size W (by unfold maxLen; simp only [ByteArray.size_append]; omega) (by omega) (by omega)).mono fun e w' ⟨he, hw⟩ => ⟨?_, hw⟩
          rw [he, h1, h2, h3]; simp
        have HI := Lib.hid hI
        have HS := Lib.hid hSt
        clear hI hSt hcp2 hcq2
        go_wp2_with fail
        refine (putU n _).mono ?_
        rintro e w3 ⟨rfl, hB5⟩
        go_wp2_with fail
        refine (putsU t _ (by unfold maxLen; omega)).mono ?_
        rintro e w4 ⟨rfl, hB6⟩
        have hB7 := (hB4.trans (hB5.mono hB4.size)).trans (hB6.mono (Nat.le_trans hB4.size hB5.size))
        go_wp2_with fail
        refine (HI.out _).mono ?_
        rintro e w5 ⟨rfl, rfl⟩
        go_wp2_with fail
        refine (HS.out _).mono ?_
        rintro e w6 ⟨rfl, rfl⟩
        go_wp2
        go_ret
        exact ⟨rfl, hB7⟩
end Go.Proofs.YtgjihgdomicijaaDoor
