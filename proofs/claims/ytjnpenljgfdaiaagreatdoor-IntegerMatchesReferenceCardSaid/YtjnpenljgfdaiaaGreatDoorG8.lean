/- package nadirref03: Root. -/
import Derived.Test.YtjnpenljgfdaiaaGreatDoorG7
namespace Go.Proofs.YtjnpenljgfdaiaaGreatDoor
open Go.RowKit Go.Shelf Lib

set_option maxRecDepth 100000 in
theorem trimmed10 (v : Value) (O : List Nat) (w : World) (hv : IntsAt w v (castL O)) (hok : D10.OKl O) (hl : O.length ≤ 1000) (hl0 : 0 < O.length) :
    Calls Tryz.prog 102 #[v] w fun e w' => ∃ v', e = .returned v' ∧ OwnD w.heap.size w' v' (D10.val O) ∧ Below w.heap.size w w' := by
  obtain ⟨a, cp, rfl, h1, h2⟩ := hv.len
  rw [castL_len] at h1 hv ⊢
  unfold maxLen at h2
  obtain ⟨b, off, rfl, -⟩ := hv.get (castL_get hl0)
  have hcells : Hid (∀ j u, ((castL O).map (Value.int .i64))[j]? = some u → (w.alloc (.cells #[] 3)).cell? (Addr.add ⟨b, off, none⟩ j) = some u) := Lib.hid (fun j u hj => by
    rw [List.getElem?_map] at hj
    cases hc : (castL O)[j]? with
    | none => rw [hc] at hj; cases hj
    | some y =>
      rw [hc] at hj
      injection hj with hj
      obtain ⟨b', off', e, hce⟩ := hv.get hc
      cases e
      rw [← hj]
      have ea : Addr.add ⟨b, off, none⟩ j = ⟨b, off + j, none⟩ := by simp [Addr.add]
      rw [ea, World.cell?_alloc_some _ _ _ (by rw [hce]; rfl)]
      exact hce)
  have hf : Hid ((w.alloc (.cells #[] 3)).ownsRow w.heap.size 3 1 (.slice (some ⟨w.heap.size, 0, none⟩) 0 0) 0 []) :=
    Lib.hid ⟨rfl, .inr ⟨w.heap.size, 0, #[], rfl, Nat.le_refl _, heap_alloc_new w _, Nat.le_refl _, by decide, rfl, rfl⟩⟩
  have hB0 : Below w.heap.size w (w.alloc (.cells #[] 3)) := (Below.refl _ _).alloc (Nat.le_refl _) _
  have HT := Lib.hid trim10_own
  clear hv
  obtain ⟨i, hi, hz0, hz1, hz2⟩ := info_parts E72.info
  go_enter Tryz.func102, Tryz.ntmps102
  go_wp2_with (at_builtin; refine wpList_append_own _ rfl _ _ 72 rfl w.heap.size 3 i _ 1 8 E72.und hi hz0 hz1 hz2 E72.zs E72.pos _ 0 [] rfl hf.out ⟨b, off, none⟩ O.length cp ((castL O).map (Value.int .i64)) rfl (by rw [casts_len, Nat.mul_one]) hcells.out (castL_one _) (by unfold maxLen; omega) (by omega) (by simp) ?_; intro v' w3 ho3 hg3 _)
  rw [Nat.zero_add, List.nil_append] at ho3
  have hB3 : Below w.heap.size w w3 := hB0.grown hg3 (by simp) (fun k hk => by cases hk; exact Nat.le_refl _)
  refine (HT.out w.heap.size _ O _ ho3 hok).mono ?_
  rintro e w' ⟨v', rfl, hres, rfl⟩
  go_wp2
  go_ret
  exact ⟨_, rfl, hres, hB3⟩
theorem cmp_pos {a b : Nat} (h : b < a) : 0 < N3.cmpI (a : Int) (b : Int) := by unfold N3.cmpI; (repeat' split) <;> omega
theorem cmp_npos {a b : Nat} (h : ¬ b < a) : ¬ 0 < N3.cmpI (a : Int) (b : Int) ∧ N3.cmpI (a : Int) (b : Int) ≤ 0 := by unfold N3.cmpI; (repeat' split) <;> omega
theorem half_len {l h : Nat} (e : h = (l + 1) / 2) (hl : l ≤ 200) : h ≤ 100 ∧ IntKind.i64.wrap ((l : Int) + 1) = (l : Int) + 1 ∧ Int.tdiv ((l : Int) + 1) 2 = (h : Int) ∧ IntKind.i64.wrap (h : Int) = (h : Int) ∧ IntKind.i64.wrap ((h : Int) - 1) = (h : Int) - 1 := by
  refine ⟨by omega, by rw [IntKind.wrap_i64]; omega, ?_, by rw [IntKind.wrap_i64]; omega, by rw [IntKind.wrap_i64]; omega⟩
  rw [Int.tdiv_eq_ediv_of_nonneg (by omega)]; omega
set_option maxRecDepth 100000 in
set_option maxHeartbeats 6000000 in
theorem root10_pos (a : ByteArray) (w : World) (ha : a.size ≤ 9223372036854775806) (hok : N3.okS a = true) (h0 : 0 < a.size) (h45 : a[0].toNat ≠ 45) :
    Calls Tryz.prog 50 #[.string a] w fun e w' => e = .returned (.tuple #[.string (N3.outS (N3.rootO a)), .int .i64 (N3.outE (N3.rootO a))]) ∧ Below w.heap.size w w' := by
  have hneg : negS a = false := by unfold negS; exact decide_eq_false (bare_pos (fun _ => h45)).1
  have hiv : N3.iV a = (magS a : Int) := by rw [(neg_mag (s := a)).1, hneg]; rfl
  have e1 : N3.rootO a = some (N3.sgn false (N3.rootN (magS a))) := by
    unfold N3.rootO
    rw [hok, decide_eq_true (show 0 ≤ N3.iV a by rw [hiv]; omega)]
    rfl
  rw [e1]
  have HA := Lib.hid (fun V => valid10 a V ha)
  have HD1 := Lib.hid (fun V => digits10 a V hok)
  rw [hok] at HA
  rw [hneg] at HD1
  have m1 := mag_lim hok
  have hi0 : (0 : Int) ≤ 0 ∧ (0 : Int) < (a.size : Int) := by omega
  have hq : ((a[0].toNat : Int) == 45) = false := beq_eq_false_iff_ne.2 (by omega)
  have q1 := len_of_lim m1
  have HST := Lib.hid (D10.root_start (n := magS a) rfl)
  obtain ⟨hh, hw1, hw2, hw3, hw4⟩ := half_len rfl q1
  have HC := Lib.hid checked10
  have HTR := Lib.hid trim10_own
  have HTM := Lib.hid trimmed10
  have HP := Lib.hid times10
  have HO := Lib.hid order10
  clear hok hneg hiv e1 ha
  generalize magS a = n at *
  generalize (((D10.toG n).length) + 1) / 2 = h at *
  go_enter Tryz.func50, Tryz.ntmps50
  go_wp2_with fail
  refine (HA.out _).mono ?_
  rintro e w' ⟨rfl, rfl⟩
  go_wp2_with fail
  refine (HD1.out _).mono ?_
  rintro e W ⟨v1, rfl, hv1, hBW⟩
  have HV1 := Lib.hid hv1.dig
  have hmk := mk72n h (by omega) W
  have HZ := Lib.hid (own_zeros h (by omega) W)
  have hB0 : Below W.heap.size W (W.alloc (.cells (madeCells #[.int .i64 0] h) 3)) := (Below.refl _ _).alloc (Nat.le_refl _) _
  obtain ⟨pa, pc, rfl, -, -⟩ := owned_len hv1
  clear hv1
  go_wp2_with fail
  go_loopw [7] (fun u7 wr => ∃ (j : Nat) (O : List Nat), j ≤ h ∧ u7 = .int .i64 ((j : Nat) - 1 : Int) ∧ O.length = h ∧ D10.OKl O ∧ (∀ t, t < j → O.getD t 0 = 0) ∧ D10.val O * D10.val O ≤ n ∧ n < (D10.val O + 10 ^ j) * (D10.val O + 10 ^ j) ∧ wr.ownsRow W.heap.size 3 1 (.slice (some ⟨W.heap.size, 0, none⟩) O.length h) O.length ((castL O).map (Value.int .i64)) ∧ Below W.heap.size W wr) (fun u7 _ => (Go.RowKit.intOf u7 + 1).toNat)
  case atStart =>
    refine ⟨h, List.replicate h 0, Nat.le_refl _, rfl, List.length_replicate, D10.zeros_ok _, ?_, by rw [D10.val_zeros]; exact Nat.zero_le _, by rw [D10.val_zeros]; exact HST.out, ?_, hB0⟩
    · intro t ht; rw [List.getD_eq_getElem?_getD, List.getElem?_replicate, if_pos ht]; rfl
    · rw [List.length_replicate]; exact HZ.out
  case round =>
    obtain ⟨j, O, hj, rfl, hOl, hOk, hO0, hlo, hhi, hown, hBr⟩ := hrel
    rename World => wr
    by_cases hj0 : j = 0
    · subst hj0
      have hj1 : ((0 : Nat) : Int) - 1 = -1 := rfl
      rw [hj1]
      have HR := Lib.hid (show N3.rootN n = D10.val O from N3.rootN_eq ⟨hlo, hhi⟩)
      have hlen : (D10.toG (D10.val O)).length ≤ 100 := by
        have := D10.toG_len_le (D10.val_lt hOk); omega
      have HOWN := Lib.hid hown
      have HOK := Lib.hid hOk
      have HOL := Lib.hid hOl
      rw [hOl] at HOWN
      clear hown hOk hO0 hlo hhi hOl hmk hB0
      go_wp2_with fail
      refine (HTR.out W.heap.size _ O _ (by rw [HOL.out]; exact HOWN.out) HOK.out).mono ?_
      rintro e w2 ⟨v2, rfl, hv2, rfl⟩
      have HV2 := Lib.hid hv2.dig
      clear hv2
      go_wp2_with fail
      refine (HC.out false _ (D10.val O) _ HV2.out (by omega)).mono ?_
      rintro e w3 ⟨rfl, hB3⟩
      have hB := hBW.trans ((hBr.trans (hB3.mono hBr.size)).mono hBW.size)
      have HRR := Lib.hid (show N3.sgn false (N3.rootN n) = N3.sgn false (D10.val O) by rw [HR.out])
      go_wp2
      go_ret2
      exact ⟨by first | (rw [HRR.out]; done) | (rw [HRR.out]; rfl), hB⟩
    · obtain ⟨i, rfl⟩ : ∃ i, j = i + 1 := ⟨j - 1, by omega⟩
      have hei : ((i + 1 : Nat) : Int) - 1 = (i : Int) := by omega
      rw [hei]
      have hil : i < O.length := by omega
      have hce := own_cell hown hil
      have hfz := hown.frozenAt i
      have hji : (0 : Int) ≤ (i : Int) ∧ (i : Int) < (O.length : Int) := by omega
      have hge : ¬ (i : Int) < 0 := by omega
      have hw5 : IntKind.i64.wrap ((i : Int) - 1) = (i : Int) - 1 := by rw [IntKind.wrap_i64]; omega
      have h9 := (hown.stored i (.int .i64 ((9 : Nat) : Int))).1
      rw [← casts_set] at h9
      have H9 := Lib.hid h9
      have HV := Lib.hid (fun d => D10.set_val0 (d := d) hil (hO0 i (Nat.lt_succ_self i)))
      have HOK := Lib.hid hOk
      have HOL := Lib.hid hOl
      have HO0 := Lib.hid hO0
      have HLO := Lib.hid hlo
      have HHI := Lib.hid (show n < (D10.val O + 10 ^ i * (9 + 1)) * (D10.val O + 10 ^ i * (9 + 1)) by rw [Nat.pow_succ] at hhi; exact hhi)
      have hBr2 : Hid (Below W.heap.size W (wr.setCell ⟨W.heap.size, i, none⟩ (.int .i64 9))) := Lib.hid (hBr.setCell (by simp) _)
      clear hown hOk hO0 hlo hhi hOl hmk hB0 h9
      go_wp2_with fail
      go_loopw [36] (fun _ wq => ∃ d : Nat, d ≤ 9 ∧ n < (D10.val O + 10 ^ i * (d + 1)) * (D10.val O + 10 ^ i * (d + 1)) ∧ wq.ownsRow W.heap.size 3 1 (.slice (some ⟨W.heap.size, 0, none⟩) O.length h) O.length ((castL (O.set i d)).map (Value.int .i64)) ∧ Below W.heap.size W wq) (fun _ wq => (Go.RowKit.intOf ((wq.cell? ⟨W.heap.size, i, none⟩).getD undef)).toNat)
      case atStart => exact ⟨9, Nat.le_refl _, HHI.out, H9.out, hBr2.out⟩
      case round =>
        obtain ⟨d, hd9, hdn, hown, hBq⟩ := hrel
        rename World => wq
        have hsl : (O.set i d).length = O.length := List.length_set ..
        have hown' : wq.ownsRow W.heap.size 3 1 (.slice (some ⟨W.heap.size, 0, none⟩) (O.set i d).length h) (O.set i d).length ((castL (O.set i d)).map (Value.int .i64)) := by rw [hsl]; exact hown
        have hce := own_cell hown' (show i < (O.set i d).length by rw [hsl]; exact hil)
        rw [getD_set_self hil] at hce
        have hfz := hown'.frozenAt i
        have HCE := Lib.hid hce
        have HOWN := Lib.hid hown
        have HOWN' := Lib.hid hown'
        have HVd := Lib.hid (HV.out d)
        have HDN := Lib.hid hdn
        have HSK := Lib.hid (D10.ok_set (j := i) HOK.out (show d < 10 by omega))
        have hUl : (D10.toG (D10.val (O.set i d))).length ≤ 100 := by
          have h1 := D10.toG_len_le (D10.val_lt HSK.out)
          rw [hsl, HOL.out] at h1; omega
        clear hown hown' hdn
        by_cases hd0 : 0 < d
        · have hd0' : (0 : Int) < (d : Int) := by omega
          have hwd : IntKind.i64.wrap ((d : Int) - 1) = ((d - 1 : Nat) : Int) := by rw [IntKind.wrap_i64]; omega
          have hU2 := len_times10 (D10.val (O.set i d)) (D10.val (O.set i d))
          have hlO : O.length ≤ 100 := by rw [HOL.out]; exact hh
          go_wp2_with fail
          refine (HTM.out _ (O.set i d) _ (by have := own_ints HOWN'.out; rw [hsl, HOL.out] at this; exact this) HSK.out (by omega) (by omega)).mono ?_
          rintro e w2 ⟨v2, rfl, hv2, hB2⟩
          have HV2 := Lib.hid hv2.dig
          have HR2 := Lib.hid (owned_below HOWN'.out hB2)
          have hBa := hBq.trans (hB2.mono hBq.size)
          clear hv2
          go_wp2_with fail
          refine (HTM.out _ (O.set i d) _ (by have := own_ints HR2.out; rw [hsl, HOL.out] at this; exact this) HSK.out (by omega) (by omega)).mono ?_
          rintro e w3 ⟨v3, rfl, hv3, hB3⟩
          have HV3 := Lib.hid hv3.dig
          have HR3 := Lib.hid (owned_below HR2.out hB3)
          have HV23 := Lib.hid (HV2.out.below hB3)
          have hBb := hBa.trans (hB3.mono hBa.size)
          clear hv3
          go_wp2_with fail
          refine (HP.out _ _ (D10.val (O.set i d)) (D10.val (O.set i d)) _ HV23.out HV3.out (by omega) (by omega)).mono ?_
          rintro e w4 ⟨v4, rfl, hv4, hB4⟩
          have HV4 := Lib.hid hv4.dig
          have HR4 := Lib.hid (owned_below HR3.out hB4)
          have hBc := hBb.trans (hB4.mono hBb.size)
          have HN4 := Lib.hid (HV1.out.below hBc)
          clear hv4
          go_wp2_with fail
          refine (HO.out _ _ (D10.val (O.set i d) * D10.val (O.set i d)) n _ HV4.out HN4.out (by omega) (by omega)).mono ?_
          rintro e w5 ⟨rfl, hB5⟩
          have HR5 := Lib.hid (owned_below HR4.out hB5)
          have hBd := hBc.trans (hB5.mono hBc.size)
          have hce5 := own_cell HR5.out (show i < (O.set i d).length by omega)
          rw [getD_set_self hil] at hce5
          have hfz5 := HR5.out.frozenAt i
          clear hce hfz
          by_cases hbig : n < D10.val (O.set i d) * D10.val (O.set i d)
          · have hz := cmp_pos hbig
            have HDN2 := Lib.hid (show n < (D10.val O + 10 ^ i * (d - 1 + 1)) * (D10.val O + 10 ^ i * (d - 1 + 1)) by rw [show d - 1 + 1 = d by omega, ← HVd.out]; exact hbig)
            clear hbig hUl hU2
            generalize N3.cmpI ((D10.val (O.set i d) * D10.val (O.set i d) : Nat) : Int) (n : Int) = z at *
            go_wp2_with fail
            go_roundw
            case rel =>
              refine ⟨d - 1, by omega, HDN2.out, ?_, hBd.setCell (by simp) _⟩
              have h7 := (HR5.out.stored i (.int .i64 ((d - 1 : Nat) : Int))).1
              rw [← casts_set, set_set', hsl] at h7
              exact h7
            case measure =>
              have h7 := (HR5.out.stored i (.int .i64 ((d - 1 : Nat) : Int))).1
              rw [← casts_set, set_set'] at h7
              have h8 := own_cell (O := O.set i (d - 1)) (by rw [show (O.set i (d - 1)).length = (O.set i d).length by rw [List.length_set, List.length_set]]; exact h7) (by rw [List.length_set]; exact hil)
              rw [getD_set_self hil] at h8
              simp only [HCE.out, h8, Option.getD_some, Go.RowKit.intOf]
              omega
          · obtain ⟨hz, hz2⟩ := cmp_npos hbig
            have HLO2 := Lib.hid (show D10.val (O.set i d) * D10.val (O.set i d) ≤ n by omega)
            have HHI2 := Lib.hid (show n < (D10.val (O.set i d) + 10 ^ i) * (D10.val (O.set i d) + 10 ^ i) by rw [HVd.out, Nat.add_assoc, ← Nat.mul_succ]; exact HDN.out)
            clear hbig hUl hU2
            generalize N3.cmpI ((D10.val (O.set i d) * D10.val (O.set i d) : Nat) : Int) (n : Int) = z at *
            go_wp2_with fail
            go_roundw
            case rel =>
              refine ⟨i, O.set i d, by omega, rfl, by rw [hsl]; exact HOL.out, HSK.out, ?_, HLO2.out, HHI2.out, HR5.out, hBd⟩
              intro t' ht'
              rw [getD_set_other (by omega)]
              exact HO0.out t' (by omega)
            case measure => simp [Go.RowKit.intOf]
        · obtain rfl : d = 0 := by omega
          have HLO2 := Lib.hid (show D10.val (O.set i 0) * D10.val (O.set i 0) ≤ n by rw [HVd.out, Nat.mul_zero, Nat.add_zero]; exact HLO.out)
          have HHI2 := Lib.hid (show n < (D10.val (O.set i 0) + 10 ^ i) * (D10.val (O.set i 0) + 10 ^ i) by rw [HVd.out, Nat.add_assoc, ← Nat.mul_succ]; exact HDN.out)
          go_wp2_with fail
          go_roundw
          case rel =>
            refine ⟨i, O.set i 0, by omega, rfl, by rw [hsl]; exact HOL.out, HSK.out, ?_, HLO2.out, HHI2.out, HOWN'.out, hBq⟩
            intro t' ht'
            rw [getD_set_other (by omega)]
            exact HO0.out t' (by omega)
          case measure => simp [Go.RowKit.intOf]
set_option maxRecDepth 100000 in
theorem root10 (a : ByteArray) (w : World) (ha : a.size ≤ 9223372036854775806) :
    Calls Tryz.prog 50 #[.string a] w fun e w' => e = .returned (.tuple #[.string (N3.outS (N3.rootO a)), .int .i64 (N3.outE (N3.rootO a))]) ∧ Below w.heap.size w w' := by
  have HA := Lib.hid (fun V => valid10 a V ha)
  cases hok : N3.okS a with
  | false =>
    have e1 : N3.rootO a = none := by unfold N3.rootO; rw [hok]; rfl
    rw [e1, out_none'.1, out_none'.2]
    rw [hok] at HA
    clear hok e1
    go_enter Tryz.func50, Tryz.ntmps50
    go_wp2_with fail
    refine (HA.out _).mono ?_
    rintro e w' ⟨rfl, rfl⟩
    go_wp2
    go_ret2
    exact ⟨rfl, Below.refl _ _⟩
  | true =>
    have h0 : 0 < a.size := by
      refine Classical.byContradiction fun hc => ?_
      have : a.data.toList = [] := List.eq_nil_of_length_eq_zero (by rw [← Lib.size_eq]; omega)
      unfold N3.okS at hok
      rw [this] at hok
      cases hok
    by_cases h45 : a[0].toNat = 45
    · have hneg : negS a = true := by unfold negS; exact decide_eq_true (bare_neg h0 h45).1
      have hp := neg_pos10 hok hneg
      have hiv : N3.iV a < 0 := by rw [(neg_mag (s := a)).1, hneg]; unfold N3.sgn; rw [if_pos rfl]; omega
      have e1 : N3.rootO a = none := by unfold N3.rootO; rw [hok, decide_eq_false (show ¬ 0 ≤ N3.iV a by omega)]; rfl
      rw [e1, out_none'.1, out_none'.2]
      rw [hok] at HA
      have hi0 : (0 : Int) ≤ 0 ∧ (0 : Int) < (a.size : Int) := by omega
      have hq : ((a[0].toNat : Int) == 45) = true := beq_iff_eq.2 (by omega)
      clear hok e1 hneg hp hiv
      go_enter Tryz.func50, Tryz.ntmps50
      go_wp2_with fail
      refine (HA.out _).mono ?_
      rintro e w' ⟨rfl, rfl⟩
      go_wp2
      go_ret2
      exact ⟨rfl, Below.refl _ _⟩
    · exact root10_pos a w ha hok h0 h45
end Go.Proofs.YtjnpenljgfdaiaaGreatDoor
