/- package nadirref03: products. -/
import Derived.Test.YtjnpenljgfdaiaaGreatDoorG2
namespace Go.Proofs.YtjnpenljgfdaiaaGreatDoor
open Go.RowKit Go.Shelf Lib

theorem mk72n (n : Nat) (hn : n ≤ 1000000) (w : World) : (Instr.makeSlice 72 (.int .i64 n) (.int .i64 n)).run Tryz.prog w = .ok (.slice (some ⟨w.heap.size, 0, none⟩) n n) (w.alloc (.cells (madeCells #[.int .i64 0] n) 3)) := by
  obtain ⟨i, hi, hz0, hz1, hz2⟩ := info_parts E72.info
  have h := run_make (P := Tryz.prog) w 72 3 i _ E72.und hi hz0 .i64 .i64 n n (by omega) (Int.le_refl _) (by rw [hz2]; omega) (by omega)
  rw [Int.toNat_natCast, hz1, Nat.mul_one] at h
  exact h
theorem own_cell {B g cap : Nat} {w : World} {O : List Nat} (h : w.ownsRow B 3 1 (.slice (some ⟨g, 0, none⟩) O.length cap) O.length ((castL O).map (Value.int .i64))) {j : Nat} (hj : j < O.length) : w.cell? ⟨g, j, none⟩ = some (.int .i64 ((O.getD j 0 : Nat) : Int)) := by
  have := h.cells rfl j (.int .i64 ((O.getD j 0 : Nat) : Int)) (by rw [List.getElem?_map, castL_get hj]; rfl)
  rw [add_zero_off] at this
  exact this
theorem set_lens {O : List Nat} {N j d : Nat} (h : O.length = N) : (O.set j d).length = N := by rw [List.length_set]; exact h
set_option maxRecDepth 100000 in
set_option maxHeartbeats 4000000 in
theorem times10 (v1 v2 : Value) (n m : Nat) (w : World) (h1 : DigAt w v1 n) (h2 : DigAt w v2 m) (l1 : (D10.toG n).length ≤ 1000) (l2 : (D10.toG m).length ≤ 1000) :
    Calls Tryz.prog 97 #[v1, v2] w fun e w' => ∃ v', e = .returned v' ∧ OwnD w.heap.size w' v' (n * m) ∧ Below w.heap.size w w' := by
  obtain ⟨a, cp, rfl, g1, g2⟩ := (show IntsAt w v1 _ from h1).len
  obtain ⟨b, cq, rfl, k1, k2⟩ := (show IntsAt w v2 _ from h2).len
  unfold DigAt at h1 h2
  rw [castL_len] at g1 k1 h1 h2
  rw [castL_len, castL_len]
  have H1 := Lib.hid h1
  have H2 := Lib.hid h2
  have HT := Lib.hid trim10_own
  have hw0 : IntKind.i64.wrap (((D10.toG n).length : Int) + ((D10.toG m).length : Int)) = (((D10.toG n).length + (D10.toG m).length : Nat) : Int) := by rw [IntKind.wrap_i64]; omega
  have hmk := mk72n ((D10.toG n).length + (D10.toG m).length) (by omega) w
  have HO := Lib.hid (own_zeros ((D10.toG n).length + (D10.toG m).length) (by omega) w)
  have hB0 : Below w.heap.size w (w.alloc (.cells (madeCells #[.int .i64 0] ((D10.toG n).length + (D10.toG m).length)) 3)) := (Below.refl _ _).alloc (Nat.le_refl _) _
  generalize hN : (D10.toG n).length + (D10.toG m).length = N at *
  clear h1 h2
  go_enter Tryz.func97, Tryz.ntmps97
  go_wp2_with fail
  go_loopw [6, 7, 8, 9] (fun u6 _ _ _ wr => ∃ (i : Nat) (O : List Nat), u6 = .int .i64 (i : Nat) ∧ i ≤ (D10.toG n).length ∧ O.length = N ∧ D10.OKl O ∧ D10.val O = n % 10 ^ i * m ∧ wr.ownsRow w.heap.size 3 1 (.slice (some ⟨w.heap.size, 0, none⟩) O.length N) O.length ((castL O).map (Value.int .i64)) ∧ Below w.heap.size w wr) (fun u6 _ _ _ _ => (((D10.toG n).length : Int) - Go.RowKit.intOf u6).toNat)
  case atStart =>
    refine ⟨0, List.replicate N 0, rfl, Nat.zero_le _, List.length_replicate, D10.zeros_ok _, by rw [D10.val_zeros, Nat.pow_zero, Nat.mod_one, Nat.zero_mul], ?_, hB0⟩
    rw [List.length_replicate]; exact HO.out
  case round =>
    obtain ⟨i, O, rfl, hil, hON, hok, hinv, hown, hBr⟩ := hrel
    rename World => wr
    by_cases hA : i < (D10.toG n).length
    · have hi1 : (0 : Int) ≤ (i : Int) ∧ (i : Int) < ((D10.toG n).length : Int) := by omega
      have hwi : IntKind.i64.wrap ((i : Int) + 1) = ((i + 1 : Nat) : Int) := by rw [IntKind.wrap_i64]; omega
      have hdx := D10.get_lt n i
      have HOWN := Lib.hid hown
      have HOK := Lib.hid hok
      have HON := Lib.hid hON
      have HIN := Lib.hid hinv
      clear hown hok hinv hON hB0 hmk
      go_wp2_with fail
      go_loopw [7, 8, 9] (fun u7 u8 _ wq => ∃ (k c : Nat) (O : List Nat), u8 = .int .i64 (k : Nat) ∧ u7 = .int .i64 (c : Nat) ∧ c ≤ 9 ∧ k ≤ N ∧ O.length = N ∧ D10.OKl O ∧ D10.val O + c * 10 ^ (i + k) = D10.partT (n % 10 ^ i * m) ((D10.toG n).getD i 0) m i k ∧ wq.ownsRow w.heap.size 3 1 (.slice (some ⟨w.heap.size, 0, none⟩) O.length N) O.length ((castL O).map (Value.int .i64)) ∧ Below w.heap.size w wq) (fun _ u8 _ _ => ((N : Int) - Go.RowKit.intOf u8).toNat)
      case atStart => exact ⟨0, 0, O, rfl, rfl, by decide, Nat.zero_le _, HON.out, HOK.out, by rw [D10.part_zero, Nat.zero_mul, Nat.add_zero]; exact HIN.out, HOWN.out, hBr⟩
      case round =>
        clear HOWN HOK HON HIN O
        obtain ⟨k, c, O, rfl, rfl, hc9, hkN, hON, hok, hinv, hown, hBq⟩ := hrel
        rename World => wq
        have hbk : w.heap.size ≤ wq.heap.size := hBq.size
        by_cases hgo : k < (D10.toG m).length ∨ 0 < c
        · have hjN : i + k < N := by have := D10.part_lt hinv hA hgo; omega
          have HST := Lib.hid (D10.times_step hinv (by omega))
          have hce0 := own_cell hown (show i + k < O.length by omega)
          have hfz0 := hown.frozenAt (i + k)
          have hdo : O.getD (i + k) 0 < 10 := hok _ (by rw [List.getD_eq_getElem?_getD, List.getElem?_eq_getElem (by omega)]; exact List.getElem_mem _)
          have hdy := D10.get_lt m k
          have hwj : IntKind.i64.wrap ((i : Int) + (k : Int)) = ((i + k : Nat) : Int) := by rw [IntKind.wrap_i64]; omega
          have hji : (0 : Int) ≤ ((i + k : Nat) : Int) ∧ ((i + k : Nat) : Int) < (O.length : Int) := by omega
          have hwk : IntKind.i64.wrap ((k : Int) + 1) = ((k + 1 : Nat) : Int) := by rw [IntKind.wrap_i64]; omega
          have HOK := Lib.hid hok
          have HON := Lib.hid hON
          have HOWN := Lib.hid hown
          have hpl := Lib.hid (show i + k + 1 = i + (k + 1) from rfl)
          have HJN := Lib.hid hjN
          clear hok hinv hown
          by_cases hB : k < (D10.toG m).length
          · have hmul := D10.digit_mul hdx hdy
            obtain ⟨b1, off1, rfl, hce1⟩ := (SliceOf.below H1.out hBq).get (castL_get hA)
            obtain ⟨b2, off2, rfl, hce2⟩ := (SliceOf.below H2.out hBq).get (castL_get hB)
            have hi2 : (0 : Int) ≤ (k : Int) ∧ (k : Int) < ((D10.toG m).length : Int) := by omega
            generalize (D10.toG n).getD i 0 = x at *
            generalize (D10.toG m).getD k 0 = y at *
            generalize O.getD (i + k) 0 = od at *
            have hwm : IntKind.i64.wrap ((x : Int) * (y : Int)) = ((x * y : Nat) : Int) := by rw [IntKind.wrap_i64, ← Int.natCast_mul]; omega
            have hw9 : IntKind.i64.wrap ((od : Int) + (c : Int)) = ((od + c : Nat) : Int) := by rw [IntKind.wrap_i64]; omega
            generalize x * y = xy at *
            have hwa : IntKind.i64.wrap (((od + c : Nat) : Int) + (xy : Int)) = ((od + c + xy : Nat) : Int) := by rw [IntKind.wrap_i64]; omega
            have hs99 : od + c + xy ≤ 99 := by omega
            generalize hoc : od + c = oc at *
            generalize oc + xy = s at *
            have hq : Int.tdiv ((s : Nat) : Int) 10 = ((s / 10 : Nat) : Int) := by rw [Int.tdiv_eq_ediv_of_nonneg (by omega)]; omega
            have hr : Int.tmod ((s : Nat) : Int) 10 = ((s % 10 : Nat) : Int) := by rw [Int.tmod_eq_emod_of_nonneg (by omega)]; omega
            have hwq : IntKind.i64.wrap ((s / 10 : Nat) : Int) = ((s / 10 : Nat) : Int) := by rw [IntKind.wrap_i64]; omega
            have hwr : IntKind.i64.wrap ((s % 10 : Nat) : Int) = ((s % 10 : Nat) : Int) := by rw [IntKind.wrap_i64]; omega
            have hcn : s / 10 ≤ 9 := by omega
            have hdn : s % 10 < 10 := by omega
            generalize s / 10 = c2 at *
            generalize s % 10 = d at *
            go_wp2_with fail
            go_quiet (fail)
            generalize hq9 : World.drewN _ _ = W5
            have hB5 : Below w.heap.size w W5 := hq9 ▸ below_drewN hBq _
            have hb5 : Below wq.heap.size wq W5 := hq9 ▸ below_drewN (Below.refl _ _) _
            have HOWN5 := Lib.hid (owned_below HOWN.out hb5)
            have hce5 := cell_keep hb5 hce0
            have hfz5 := HOWN5.out.frozenAt (i + k)
            clear hq9 hce0 hfz0 hce1 hce2
            go_wp2_with fail
            go_roundw
            case rel =>
              refine ⟨k + 1, c2, O.set (i + k) d, by go_num, rfl, hcn, by have := HJN.out; omega, set_lens HON.out, D10.ok_set HOK.out hdn, HST.out, ?_, hB5.setCell (by simp) _⟩
              rw [casts_set, set_lens rfl]
              exact (HOWN5.out.stored (i + k) (.int .i64 (d : Nat))).1
            case measure => have := HJN.out; simp [Go.RowKit.intOf]; omega
          · have hc0 : 0 < c := hgo.resolve_left hB
            have q2 : ¬ (k : Int) < ((D10.toG m).length : Int) := by omega
            rw [D10.toG_over hB, Nat.mul_zero, Nat.add_zero] at HST
            generalize O.getD (i + k) 0 = od at *
            have hw9 : IntKind.i64.wrap ((od : Int) + (c : Int)) = ((od + c : Nat) : Int) := by rw [IntKind.wrap_i64]; omega
            have hs99 : od + c ≤ 99 := by omega
            generalize od + c = s at *
            have hq : Int.tdiv ((s : Nat) : Int) 10 = ((s / 10 : Nat) : Int) := by rw [Int.tdiv_eq_ediv_of_nonneg (by omega)]; omega
            have hr : Int.tmod ((s : Nat) : Int) 10 = ((s % 10 : Nat) : Int) := by rw [Int.tmod_eq_emod_of_nonneg (by omega)]; omega
            have hwq : IntKind.i64.wrap ((s / 10 : Nat) : Int) = ((s / 10 : Nat) : Int) := by rw [IntKind.wrap_i64]; omega
            have hwr : IntKind.i64.wrap ((s % 10 : Nat) : Int) = ((s % 10 : Nat) : Int) := by rw [IntKind.wrap_i64]; omega
            have hcn : s / 10 ≤ 9 := by omega
            have hdn : s % 10 < 10 := by omega
            generalize s / 10 = c2 at *
            generalize s % 10 = d at *
            go_wp2_with fail
            go_roundw
            case rel =>
              refine ⟨k + 1, c2, O.set (i + k) d, by go_num, rfl, hcn, by have := HJN.out; omega, set_lens HON.out, D10.ok_set HOK.out hdn, HST.out, ?_, hBq.setCell (by simp) _⟩
              rw [casts_set, set_lens rfl]
              exact (HOWN.out.stored (i + k) (.int .i64 (d : Nat))).1
            case measure => have := HJN.out; simp [Go.RowKit.intOf]; omega
        · have hc0 : c = 0 := by omega
          have hB : ¬ k < (D10.toG m).length := by omega
          subst hc0
          have HV := Lib.hid (show D10.val O = n % 10 ^ (i + 1) * m from by rw [D10.part_end hB, Nat.zero_mul, Nat.add_zero] at hinv; exact hinv)
          have q2 : ¬ (k : Int) < ((D10.toG m).length : Int) := by omega
          have HOWN := Lib.hid hown
          have HOK := Lib.hid hok
          have HON := Lib.hid hON
          clear hown hok hinv hON
          go_wp2_with fail
          go_roundw
          case rel => exact ⟨i + 1, O, by go_num, by omega, HON.out, HOK.out, HV.out, HOWN.out, hBq⟩
          case measure => simp [Go.RowKit.intOf]; omega
    · obtain rfl : i = (D10.toG n).length := by omega
      have q1 : ¬ ((D10.toG n).length : Int) < ((D10.toG n).length : Int) := by omega
      have hv : Hid (D10.val O = n * m) := Lib.hid (by rw [Nat.mod_eq_of_lt (D10.lt_pow n)] at hinv; exact hinv)
      have HOWN := Lib.hid hown
      have HOK := Lib.hid hok
      have HON := Lib.hid hON
      rw [hON] at HOWN
      clear hown hinv hok hON hmk hB0
      go_wp2_with fail
      refine (HT.out w.heap.size _ O _ (by rw [HON.out]; exact HOWN.out) HOK.out).mono ?_
      rintro e w' ⟨v', rfl, hres, rfl⟩
      go_wp2
      go_ret
      exact ⟨_, rfl, by rw [hv.out] at hres; exact hres, hBr⟩
end Go.Proofs.YtjnpenljgfdaiaaGreatDoor
