/- package nadirref18: most. -/
import Derived.Test.YtmajkagmcdlncaaC4
namespace Go.Proofs.Ytmajkagmcdlncaa
open Go.RowKit
open L18 (Pass Slot noPass noSlot mostV daysV dayP maxC partC)

theorem days_at {ps : List Pass} {l : List Int} {k : Nat} (hk : k < l.length) : (daysV ps l).getD k 0 = dayP ps (l.getD k 0) := by
  unfold daysV
  rw [List.getD_eq_getElem?_getD, List.getElem?_map, List.getElem?_eq_getElem hk, List.getD_eq_getElem?_getD, List.getElem?_eq_getElem hk]; rfl
theorem count_snoc {ds : List Int} {k : Nat} (d : Int) (hk : k < ds.length) : (ds.take (k + 1)).count d = (ds.take k).count d + if ds.getD k 0 = d then 1 else 0 := by
  rw [List.take_add_one, getD_some 0 hk, List.count_append]
  congr 1
  simp only [Option.toList_some, List.count_singleton, beq_iff_eq]
set_option maxRecDepth 100000 in
set_option maxHeartbeats 2000000 in
theorem most41 (vp v : Value) (ps : List Pass) (l : List Int) (w : World) (hp : PassesAt w vp ps) (hv : IntsAt w v l) (hc : CanOK ps) (hi : InI ps.length l) (hs : l.length ≤ 1000) :
    Calls Try.prog 41 #[vp, v] w fun e w' => e = .returned (.int .i64 (mostV ps l : Nat)) ∧ Below w.heap.size w w' := by
  have HV := Lib.hid hv
  have HP := Lib.hid hp
  have HC := Lib.hid hc
  have HI := Lib.hid hi
  obtain ⟨a, cap, rfl, hle, hcm⟩ := hv.len
  obtain ⟨pa, pc, rfl, ple, pcm⟩ := hp.len
  unfold maxLen at hcm pcm
  clear hv hp hc hi
  obtain ⟨ds, hds⟩ : ∃ ds, daysV ps l = ds := ⟨_, rfl⟩
  have hdl : ds.length = l.length := by rw [← hds]; unfold daysV; simp
  have HAT := Lib.hid (fun k (hk : k < l.length) => (show ds.getD k 0 = dayP ps (l.getD k 0) by rw [← hds]; exact days_at hk))
  have HDL := Lib.hid hdl
  unfold mostV
  rw [hds]
  clear hdl hds
  go_enter Try.func41, Try.ntmps41
  go_wp2
  go_loopw [5, 6, 7, 8] (fun u5 u6 _ _ wr => ∃ k : Nat, k ≤ l.length ∧ u6 = .int .i64 k ∧ u5 = .int .i64 (partC ds k : Nat) ∧ Below w.heap.size w wr) (fun _ u6 _ _ _ => (l.length - intOf u6).toNat)
  case atStart => exact ⟨0, by omega, rfl, rfl, Below.refl _ _⟩
  case round =>
    obtain ⟨i, hi, rfl, rfl, hBr⟩ := hrel
    by_cases hil : i < l.length
    · have HDI := Lib.hid (HAT.out i hil)
      have hin := HI.out _ (L18.getD_mem 0 hil)
      obtain ⟨x, hx⟩ : ∃ x, l.getD i 0 = x := ⟨_, rfl⟩
      have HX := Lib.hid hx
      rw [hx] at hin HDI
      obtain ⟨n, rfl⟩ : ∃ n : Nat, x = n := ⟨x.toNat, by omega⟩
      have hnl : n < ps.length := by omega
      obtain ⟨pm, hpm⟩ : ∃ m, partC ds i = m := ⟨_, rfl⟩
      have HPM := Lib.hid hpm
      rw [hpm]
      clear hpm hx hin
      go_wp2
      go_loopw [7, 8] (fun u7 u8 wx => ∃ j : Nat, j ≤ l.length ∧ u8 = .int .i64 j ∧ u7 = .int .i64 ((ds.take j).count (ds.getD i 0) : Nat) ∧ Below w.heap.size w wx) (fun _ u8 _ => (l.length - intOf u8).toNat)
      case atStart => exact ⟨0, by omega, rfl, rfl, hBr⟩
      case round =>
        obtain ⟨j, hj, rfl, rfl, hBx⟩ := hrel
        by_cases hjl : j < l.length
        · have HDJ := Lib.hid (HAT.out j hjl)
          have HCS := Lib.hid (count_snoc (ds := ds) (ds.getD i 0) (k := j) (by rw [HDL.out]; exact hjl))
          have hin := HI.out _ (L18.getD_mem 0 hjl)
          obtain ⟨y, hy⟩ : ∃ x, l.getD j 0 = x := ⟨_, rfl⟩
          have HY := Lib.hid hy
          rw [hy] at hin HDJ
          obtain ⟨m, rfl⟩ : ∃ n : Nat, y = n := ⟨y.toNat, by omega⟩
          have hml : m < ps.length := by omega
          obtain ⟨b, off, rfl, c0⟩ := (HV.out.below hBx).get (getD_some 0 hil)
          obtain ⟨b2, off2, e2, c1⟩ := (HV.out.below hBx).get (getD_some 0 hjl)
          cases e2
          rw [HX.out] at c0
          rw [HY.out] at c1
          have hf := HC.out n hnl
          have hg := HC.out m hml
          obtain ⟨b', off', rfl, -, -, -, -, p4, -⟩ := (PassesAt.later HP.out hBx).get (getD_some noPass hnl)
          obtain ⟨b3, off3, e3, -, -, -, -, q4, -⟩ := (PassesAt.later HP.out hBx).get (getD_some noPass hml)
          cases e3
          have HF := Lib.hid (show dayP ps (n : Int) = (ps.getD n noPass).cf.tdiv 1440 from rfl)
          have HG := Lib.hid (show dayP ps (m : Int) = (ps.getD m noPass).cf.tdiv 1440 from rfl)
          generalize (ps.getD n noPass).cf = f at hf p4 HF
          generalize (ps.getD m noPass).cf = g at hg q4 HG
          have hct : (ds.take j).count (ds.getD i 0) ≤ j := Nat.le_trans List.count_le_length (by rw [List.length_take]; omega)
          obtain ⟨ct, hcte⟩ : ∃ c, (ds.take j).count (ds.getD i 0) = c := ⟨_, rfl⟩
          have HCT := Lib.hid hcte
          rw [hcte] at hct ⊢
          have i1 : (0 : Int) ≤ (i : Int) ∧ (i : Int) < (l.length : Int) := by omega
          have i2 : (0 : Int) ≤ (j : Int) ∧ (j : Int) < (l.length : Int) := by omega
          have i3 : (0 : Int) ≤ (n : Int) ∧ (n : Int) < (ps.length : Int) := by omega
          have i4 : (0 : Int) ≤ (m : Int) ∧ (m : Int) < (ps.length : Int) := by omega
          clear hcte hy hin
          by_cases hq : f / 1440 = g / 1440
          · have hq1 : ((f / 1440) == (g / 1440)) = true := beq_iff_eq.2 hq
            have HR := Lib.hid (show (ds.take (j + 1)).count (ds.getD i 0) = ct + 1 by
              rw [HCS.out, HCT.out, HDI.out, HDJ.out, HF.out, HG.out, Int.tdiv_eq_ediv_of_nonneg hf.1, Int.tdiv_eq_ediv_of_nonneg hg.1, if_pos hq.symm])
            clear hq
            go_upto_region 9 with (fail)
            go_quiet (fail)
            go_wp2
            go_roundw
            case rel => exact ⟨j + 1, by omega, by go_num, by rw [HR.out]; go_num, below_drewN hBx _⟩
            case measure => simp [intOf]; omega
          · have hq1 : ((f / 1440) == (g / 1440)) = false := beq_eq_false_iff_ne.2 hq
            have HR := Lib.hid (show (ds.take (j + 1)).count (ds.getD i 0) = ct by
              rw [HCS.out, HCT.out, HDI.out, HDJ.out, HF.out, HG.out, Int.tdiv_eq_ediv_of_nonneg hf.1, Int.tdiv_eq_ediv_of_nonneg hg.1, if_neg (fun h => hq h.symm)]; rfl)
            clear hq
            go_upto_region 9 with (fail)
            go_quiet (fail)
            go_wp2
            go_roundw
            case rel => exact ⟨j + 1, by omega, by go_num, by rw [HR.out], below_drewN hBx _⟩
            case measure => simp [intOf]; omega
        · obtain rfl : j = l.length := by omega
          rw [show ds.take l.length = ds by rw [← HDL.out, List.take_length]]
          have HPS := Lib.hid (show partC ds (i + 1) = max (partC ds i) (ds.count (ds.getD i 0)) from rfl)
          have hct : ds.count (ds.getD i 0) ≤ l.length := by rw [← HDL.out]; exact List.count_le_length
          generalize ds.count (ds.getD i 0) = ct at hct HPS ⊢
          rw [HPM.out] at HPS
          obtain ⟨mx, hmx⟩ : ∃ x : Nat, max pm ct = x := ⟨_, rfl⟩
          have hmx1 : (if (pm : Int) < (ct : Int) then (ct : Int) else (pm : Int)) = (mx : Int) := by rw [← hmx, Nat.max_def]; split <;> split <;> omega
          have hmx2 : max (pm : Int) (ct : Int) = (mx : Int) := by rw [← hmx1, Int.max_def]; split <;> split <;> omega
          rw [hmx] at HPS
          clear hmx
          go_wp2
          go_roundw
          case rel => exact ⟨i + 1, by omega, by go_num, by rw [HPS.out], hBx⟩
          case measure => simp [intOf]; omega
    · obtain rfl : i = l.length := by omega
      have HE := Lib.hid (L18.partC_all ds)
      rw [HDL.out] at HE
      go_wp2
      go_ret
      exact ⟨by rw [← HE.out]; rfl, hBr⟩
end Go.Proofs.Ytmajkagmcdlncaa
