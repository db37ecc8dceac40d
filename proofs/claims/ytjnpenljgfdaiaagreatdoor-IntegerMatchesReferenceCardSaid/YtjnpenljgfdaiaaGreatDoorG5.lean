/- package nadirref03: which strings are integers; their digits. -/
import Derived.Test.YtjnpenljgfdaiaaGreatDoorG3
namespace Go.Proofs.YtjnpenljgfdaiaaGreatDoor
open Go.RowKit Go.Shelf Lib

/-- What is left of the text behind a sign. -/
def okT (t : List UInt8) : Bool := decide (0 < t.length) && (decide (t.length ≤ 200) && (t.all N3.isD && (decide (t = [48]) || decide (t.head? ≠ some 48))))
theorem okT_bare {s : List UInt8} (h : s.head? = some 45 → N3.bare s ≠ [48]) : N3.isI s = okT (N3.bare s) := by
  rw [N3.isI_bare]
  unfold okT
  have e1 : (!(N3.bare s).isEmpty) = decide (0 < (N3.bare s).length) := by cases N3.bare s <;> simp
  rw [e1]
  by_cases hm : s.head? = some 45
  · have h1 : decide (s = [48]) = false := decide_eq_false (fun e => by rw [e] at hm; cases hm)
    have h2 : decide (N3.bare s = [48]) = false := decide_eq_false (h hm)
    rw [h1, h2]
  · have : N3.bare s = s := by unfold N3.bare; rw [if_neg hm]
    rw [this]
theorem okT_bad {s : List UInt8} (h1 : s.head? = some 45) (h : N3.bare s = [48]) : N3.isI s = false := by
  rw [N3.isI_bare, h]
  have h1 : decide (s = [48]) = false := decide_eq_false (fun e => by rw [e] at h1; cases h1)
  rw [h1]; rfl
theorem okT_nd {t : List UInt8} (h : t.all N3.isD = false) : okT t = false := by unfold okT; rw [h]; simp
theorem nd_at {t : ByteArray} {i : Nat} (hi : i < t.size) (h : N3.isD t[i] = false) : t.data.toList.all N3.isD = false := by
  refine Bool.eq_false_iff.2 fun hc => ?_
  have := List.all_eq_true.1 hc t[i] (by
    have : t[i] = t.data.toList[i]'(by rw [← Lib.size_eq]; exact hi) := rfl
    rw [this]; exact List.getElem_mem _)
  rw [h] at this; cases this
theorem take_all {t : ByteArray} {i : Nat} (hi : i < t.size) (h : (t.data.toList.take i).all N3.isD = true) (hc : N3.isD t[i] = true) : (t.data.toList.take (i + 1)).all N3.isD = true := by
  have e : t.data.toList.take (i + 1) = t.data.toList.take i ++ [t[i]] := by
    rw [List.take_add_one]
    have : t.data.toList[i]? = some t[i] := by rw [List.getElem?_eq_getElem (by rw [← Lib.size_eq]; exact hi)]; rfl
    rw [this]; rfl
  rw [e, List.all_append, h]; simp [hc]
theorem str_eq48 {t : ByteArray} (h : t.data.toList = [48]) : (t.toList == [48]) = true := by rw [← ByteArray.toList_eq] at h; rw [h]; rfl
theorem str_ne48 {t : ByteArray} (h : t.data.toList ≠ [48]) : (t.toList == [48]) = false := by rw [← ByteArray.toList_eq] at h; exact beq_eq_false_iff_ne.2 h
theorem head_at {t : ByteArray} (h : 0 < t.size) : t.data.toList.head? = some t[0] := by
  rw [List.head?_eq_getElem?, List.getElem?_eq_getElem (by rw [← Lib.size_eq]; exact h)]; rfl
theorem bare_neg {s : ByteArray} (h : 0 < s.size) (h0 : s[0].toNat = 45) : s.data.toList.head? = some 45 ∧ (s.extract 1 s.size).data.toList = N3.bare s.data.toList := by
  have e : s[0] = 45 := UInt8.toNat_inj.1 h0
  have h1 : s.data.toList.head? = some 45 := by rw [head_at h, e]
  refine ⟨h1, ?_⟩
  rw [extr_end]
  unfold N3.bare
  rw [if_pos h1, List.drop_one]
theorem bare_pos {s : ByteArray} (h : ∀ h0 : 0 < s.size, s[0].toNat ≠ 45) : s.data.toList.head? ≠ some 45 ∧ s.data.toList = N3.bare s.data.toList := by
  have h1 : s.data.toList.head? ≠ some 45 := by
    by_cases h0 : 0 < s.size
    · rw [head_at h0]; intro e; injection e with e; have k := h h0; rw [e] at k; exact k rfl
    · have : s.data.toList = [] := List.eq_nil_of_length_eq_zero (by rw [← Lib.size_eq]; omega)
      rw [this]; simp
  refine ⟨h1, ?_⟩
  unfold N3.bare
  rw [if_neg h1]
theorem all_full {t : ByteArray} {i : Nat} (hi : i = t.size) (h : (t.data.toList.take i).all N3.isD = true) : t.data.toList.all N3.isD = true := by
  rw [hi, List.take_of_length_le (by rw [← Lib.size_eq]; exact Nat.le_refl _)] at h; exact h
theorem okT_end {t : ByteArray} (h : t.data.toList.all N3.isD = true) (h0 : 0 < t.size) : okT t.data.toList = (decide (t.size ≤ 200) && (decide (t.data.toList = [48]) || decide (t[0].toNat ≠ 48))) := by
  unfold okT
  rw [h, ← Lib.size_eq, decide_eq_true h0, Bool.true_and, Bool.true_and]
  have e : decide (t.data.toList.head? ≠ some 48) = decide (t[0].toNat ≠ 48) := by
    rw [head_at h0, decide_eq_decide]
    constructor
    · intro k e; exact k (congrArg some (UInt8.toNat_inj.1 e))
    · intro k e; injection e with e; rw [e] at k; exact k rfl
  rw [e]
theorem okT_end0 {t : ByteArray} (h0 : ¬ 0 < t.size) : okT t.data.toList = false := by
  unfold okT; rw [← Lib.size_eq, decide_eq_false h0]; rfl

set_option maxRecDepth 100000 in
set_option maxHeartbeats 2000000 in
theorem valid10_neg (s t : ByteArray) (w : World) (hs : s.size ≤ 9223372036854775807) (h0 : 0 < s.size) (h45 : s[0].toNat = 45) (ht : s.extract 1 s.size = t) :
    Calls Tryz.prog 53 #[.string s] w fun e w' => e = .returned (.bool (N3.okS s)) ∧ w = w' := by
  obtain ⟨b1, b2⟩ := bare_neg h0 h45
  rw [ht] at b2
  have hts : t.size ≤ 9223372036854775806 := by rw [← ht, ByteArray.size_extract]; omega
  have hq1 : (0 : Int) < (s.size : Int) := by omega
  have hi0' : (0 : Int) ≤ 0 ∧ (0 : Int) < (s.size : Int) := by omega
  have hi1' : (0 : Int) ≤ 1 ∧ (1 : Int) ≤ (s.size : Int) := by omega
  have hq2 : ((s[0].toNat : Int) == 45) = true := beq_iff_eq.2 (by omega)
  by_cases hb : N3.bare s.data.toList = [48]
  · have HR := Lib.hid (show N3.okS s = false from okT_bad b1 hb)
    have hst := str_eq48 (b2.trans hb)
    clear b1 b2 hb
    go_enter Tryz.func53, Tryz.ntmps53
    go_wp2_with (simp only [ht])
    go_ret
    exact ⟨by first | (rw [HR.out]; done) | (rw [HR.out]; rfl), rfl⟩
  · have HOK := Lib.hid (show N3.okS s = okT t.data.toList from by rw [b2]; exact okT_bare (fun _ => hb))
    have hst := str_ne48 (fun e => hb (b2.symm.trans e))
    clear b1 b2 hb
    go_enter Tryz.func53, Tryz.ntmps53
    go_wp2_with (simp only [ht])
    go_loopw [3] (fun u3 wr => ∃ i : Nat, i ≤ t.size ∧ u3 = .int .i64 (i : Nat) ∧ (t.data.toList.take i).all N3.isD = true ∧ w = wr) (fun u3 _ => ((t.size : Int) - Go.RowKit.intOf u3).toNat)
    case atStart => exact ⟨0, Nat.zero_le _, rfl, rfl, rfl⟩
    case round =>
      obtain ⟨i, hi, rfl, hall, rfl⟩ := hrel
      have HALL := Lib.hid hall
      clear hall
      by_cases hlt : i < t.size
      · have hki : (0 : Int) ≤ (i : Int) ∧ (i : Int) < (t.size : Int) := by omega
        have hwi : IntKind.i64.wrap ((i : Int) + 1) = ((i + 1 : Nat) : Int) := by rw [IntKind.wrap_i64]; omega
        have HX := Lib.hid (fun h => nd_at hlt h)
        have HY := Lib.hid (fun h => take_all hlt HALL.out h)
        have hgen : Hid (∀ c : UInt8, N3.isD c = (decide (48 ≤ c.toNat) && decide (c.toNat ≤ 57))) := Lib.hid (fun c => rfl)
        by_cases h48 : t[i].toNat < 48
        · have hq : (t[i].toNat : Int) < 48 := by omega
          have HR := Lib.hid (show okT t.data.toList = false from okT_nd (HX.out (by rw [hgen.out, decide_eq_false (show ¬ 48 ≤ t[i].toNat by omega)]; rfl)))
          clear HX HY
          go_wp2
          go_ret
          exact ⟨by first | (rw [HOK.out, HR.out]; done) | (rw [HOK.out, HR.out]; rfl), rfl⟩
        · have hq : ¬ (t[i].toNat : Int) < 48 := by omega
          by_cases h57 : 57 < t[i].toNat
          · have hq2 : (57 : Int) < (t[i].toNat : Int) := by omega
            have HR := Lib.hid (show okT t.data.toList = false from okT_nd (HX.out (by rw [hgen.out, decide_eq_false (show ¬ t[i].toNat ≤ 57 by omega), Bool.and_false])))
            clear HX HY
            go_wp2
            go_ret
            exact ⟨by first | (rw [HOK.out, HR.out]; done) | (rw [HOK.out, HR.out]; rfl), rfl⟩
          · have hq2 : ¬ (57 : Int) < (t[i].toNat : Int) := by omega
            have HR := Lib.hid (HY.out (by rw [hgen.out, decide_eq_true (show 48 ≤ t[i].toNat by omega), decide_eq_true (show t[i].toNat ≤ 57 by omega)]; rfl))
            clear HX HY
            go_wp2
            go_roundw
            case rel => exact ⟨i + 1, by omega, by go_num, HR.out, by first | rfl | trivial⟩
            case measure => simp [Go.RowKit.intOf]; omega
      · obtain rfl : i = t.size := by omega
        have HF := Lib.hid (all_full rfl HALL.out)
        have hq0 : ¬ (t.size : Int) < (t.size : Int) := by omega
        by_cases h0 : 0 < t.size
        · have HE := Lib.hid (okT_end HF.out h0)
          have hi0 : (0 : Int) ≤ 0 ∧ (0 : Int) < (t.size : Int) := by omega
          by_cases h200 : t.size ≤ 200
          · by_cases h48 : t.data.toList = [48]
            · exact absurd hst (by rw [str_eq48 h48]; decide)
            · have hs := str_ne48 h48
              by_cases hz : t[0].toNat = 48
              · have HR := Lib.hid (show okT t.data.toList = false by rw [HE.out, decide_eq_true h200, decide_eq_false h48, decide_eq_false (fun k => k hz)]; rfl)
                clear h48 HE
                go_wp2
                go_ret
                exact ⟨by first | (rw [HOK.out, HR.out]; done) | (rw [HOK.out, HR.out]; rfl), rfl⟩
              · have HR := Lib.hid (show okT t.data.toList = true by rw [HE.out, decide_eq_true h200, decide_eq_false h48, decide_eq_true hz]; rfl)
                have hz2 : ((t[0].toNat : Int) != 48) = true := bne_iff_ne.2 (by omega)
                have hz3 : ((t[0].toNat : Int) == 48) = false := beq_eq_false_iff_ne.2 (by omega)
                clear h48 HE
                go_wp2
                go_ret
                exact ⟨by first | (rw [HOK.out, HR.out]; done) | (rw [HOK.out, HR.out]; rfl), rfl⟩
          · have HR := Lib.hid (show okT t.data.toList = false by rw [HE.out, decide_eq_false h200]; rfl)
            clear HE
            go_wp2
            go_ret
            exact ⟨by first | (rw [HOK.out, HR.out]; done) | (rw [HOK.out, HR.out]; rfl), rfl⟩
        · have HR := Lib.hid (okT_end0 h0)
          go_wp2
          go_ret
          exact ⟨by first | (rw [HOK.out, HR.out]; done) | (rw [HOK.out, HR.out]; rfl), rfl⟩

set_option maxRecDepth 100000 in
set_option maxHeartbeats 2000000 in
theorem valid10_pos (t : ByteArray) (w : World) (hts : t.size ≤ 9223372036854775806) (h45 : ∀ h0 : 0 < t.size, t[0].toNat ≠ 45) :
    Calls Tryz.prog 53 #[.string t] w fun e w' => e = .returned (.bool (N3.okS t)) ∧ w = w' := by
  obtain ⟨b1, b2⟩ := bare_pos h45
  have HOK := Lib.hid (show N3.okS t = okT t.data.toList from by rw [b2]; unfold N3.okS; rw [okT_bare (fun h => absurd h b1), ← b2])
  clear b1 b2
  by_cases hz0 : 0 < t.size
  · have hq2 : ((t[0].toNat : Int) == 45) = false := beq_eq_false_iff_ne.2 (by have := h45 hz0; omega)
    have hi0' : (0 : Int) ≤ 0 ∧ (0 : Int) < (t.size : Int) := by omega
    clear h45
    go_enter Tryz.func53, Tryz.ntmps53
    go_wp2_with fail
    go_loopw [3] (fun u3 wr => ∃ i : Nat, i ≤ t.size ∧ u3 = .int .i64 (i : Nat) ∧ (t.data.toList.take i).all N3.isD = true ∧ w = wr) (fun u3 _ => ((t.size : Int) - Go.RowKit.intOf u3).toNat)
    case atStart => exact ⟨0, Nat.zero_le _, rfl, rfl, rfl⟩
    case round =>
      obtain ⟨i, hi, rfl, hall, rfl⟩ := hrel
      have HALL := Lib.hid hall
      clear hall
      by_cases hlt : i < t.size
      · have hki : (0 : Int) ≤ (i : Int) ∧ (i : Int) < (t.size : Int) := by omega
        have hwi : IntKind.i64.wrap ((i : Int) + 1) = ((i + 1 : Nat) : Int) := by rw [IntKind.wrap_i64]; omega
        have HX := Lib.hid (fun h => nd_at hlt h)
        have HY := Lib.hid (fun h => take_all hlt HALL.out h)
        have hgen : Hid (∀ c : UInt8, N3.isD c = (decide (48 ≤ c.toNat) && decide (c.toNat ≤ 57))) := Lib.hid (fun c => rfl)
        by_cases h48 : t[i].toNat < 48
        · have hq : (t[i].toNat : Int) < 48 := by omega
          have HR := Lib.hid (show okT t.data.toList = false from okT_nd (HX.out (by rw [hgen.out, decide_eq_false (show ¬ 48 ≤ t[i].toNat by omega)]; rfl)))
          clear HX HY
          go_wp2
          go_ret
          exact ⟨by first | (rw [HOK.out, HR.out]; done) | (rw [HOK.out, HR.out]; rfl), rfl⟩
        · have hq : ¬ (t[i].toNat : Int) < 48 := by omega
          by_cases h57 : 57 < t[i].toNat
          · have hq2 : (57 : Int) < (t[i].toNat : Int) := by omega
            have HR := Lib.hid (show okT t.data.toList = false from okT_nd (HX.out (by rw [hgen.out, decide_eq_false (show ¬ t[i].toNat ≤ 57 by omega), Bool.and_false])))
            clear HX HY
            go_wp2
            go_ret
            exact ⟨by first | (rw [HOK.out, HR.out]; done) | (rw [HOK.out, HR.out]; rfl), rfl⟩
          · have hq2 : ¬ (57 : Int) < (t[i].toNat : Int) := by omega
            have HR := Lib.hid (HY.out (by rw [hgen.out, decide_eq_true (show 48 ≤ t[i].toNat by omega), decide_eq_true (show t[i].toNat ≤ 57 by omega)]; rfl))
            clear HX HY
            go_wp2
            go_roundw
            case rel => exact ⟨i + 1, by omega, by go_num, HR.out, by first | rfl | trivial⟩
            case measure => simp [Go.RowKit.intOf]; omega
      · obtain rfl : i = t.size := by omega
        have HF := Lib.hid (all_full rfl HALL.out)
        have hq0 : ¬ (t.size : Int) < (t.size : Int) := by omega
        by_cases h0 : 0 < t.size
        · have HE := Lib.hid (okT_end HF.out h0)
          have hi0 : (0 : Int) ≤ 0 ∧ (0 : Int) < (t.size : Int) := by omega
          by_cases h200 : t.size ≤ 200
          · by_cases h48 : t.data.toList = [48]
            · have hs := str_eq48 h48
              have HR := Lib.hid (show okT t.data.toList = true by rw [HE.out, decide_eq_true h200, decide_eq_true h48]; rfl)
              clear h48 HE
              go_wp2
              go_ret
              exact ⟨by first | (rw [HOK.out, HR.out]; done) | (rw [HOK.out, HR.out]; rfl), rfl⟩
            · have hs := str_ne48 h48
              by_cases hz : t[0].toNat = 48
              · have HR := Lib.hid (show okT t.data.toList = false by rw [HE.out, decide_eq_true h200, decide_eq_false h48, decide_eq_false (fun k => k hz)]; rfl)
                clear h48 HE
                go_wp2
                go_ret
                exact ⟨by first | (rw [HOK.out, HR.out]; done) | (rw [HOK.out, HR.out]; rfl), rfl⟩
              · have HR := Lib.hid (show okT t.data.toList = true by rw [HE.out, decide_eq_true h200, decide_eq_false h48, decide_eq_true hz]; rfl)
                have hz2 : ((t[0].toNat : Int) != 48) = true := bne_iff_ne.2 (by omega)
                have hz3 : ((t[0].toNat : Int) == 48) = false := beq_eq_false_iff_ne.2 (by omega)
                clear h48 HE
                go_wp2
                go_ret
                exact ⟨by first | (rw [HOK.out, HR.out]; done) | (rw [HOK.out, HR.out]; rfl), rfl⟩
          · have HR := Lib.hid (show okT t.data.toList = false by rw [HE.out, decide_eq_false h200]; rfl)
            clear HE
            go_wp2
            go_ret
            exact ⟨by first | (rw [HOK.out, HR.out]; done) | (rw [HOK.out, HR.out]; rfl), rfl⟩
        · exact absurd hz0 h0
  · clear h45
    go_enter Tryz.func53, Tryz.ntmps53
    go_wp2_with fail
    go_loopw [3] (fun u3 wr => ∃ i : Nat, i ≤ t.size ∧ u3 = .int .i64 (i : Nat) ∧ (t.data.toList.take i).all N3.isD = true ∧ w = wr) (fun u3 _ => ((t.size : Int) - Go.RowKit.intOf u3).toNat)
    case atStart => exact ⟨0, Nat.zero_le _, rfl, rfl, rfl⟩
    case round =>
      obtain ⟨i, hi, rfl, hall, rfl⟩ := hrel
      obtain rfl : i = 0 := by omega
      have HR := Lib.hid (okT_end0 hz0)
      have hq0 : ¬ (0 : Int) < (t.size : Int) := by omega
      clear hall
      go_wp2
      go_ret
      exact ⟨by first | (rw [HOK.out, HR.out]; done) | (rw [HOK.out, HR.out]; rfl), rfl⟩
theorem valid10 (s : ByteArray) (w : World) (hs : s.size ≤ 9223372036854775806) :
    Calls Tryz.prog 53 #[.string s] w fun e w' => e = .returned (.bool (N3.okS s)) ∧ w = w' := by
  by_cases h0 : 0 < s.size
  · by_cases h45 : s[0].toNat = 45
    · exact valid10_neg s _ w (by omega) h0 h45 rfl
    · exact valid10_pos s w hs (fun _ => h45)
  · exact valid10_pos s w hs (fun h => absurd h h0)
/-- Whether there is a sign in front. -/
def negS (s : ByteArray) : Bool := decide (s.data.toList.head? = some 45)
def magS (s : ByteArray) : Nat := (N3.iV s).natAbs
theorem neg_mag {s : ByteArray} : N3.iV s = N3.sgn (negS s) (magS s) ∧ magS s = N3.decV (N3.bare s.data.toList) := by
  have hm : magS s = N3.decV (N3.bare s.data.toList) := by
    unfold magS N3.iV N3.intV N3.bare
    split <;> omega
  refine ⟨?_, hm⟩
  rw [hm]
  unfold negS N3.sgn N3.iV N3.intV N3.bare
  by_cases h : s.data.toList.head? = some 45
  · rw [if_pos h, if_pos h, if_pos (decide_eq_true h)]
  · rw [if_neg h, if_neg h, if_neg (by rw [decide_eq_false h]; decide)]
theorem digs_take {t : ByteArray} {k : Nat} (h : k < t.size) : (N3.digs t.data.toList).take (k + 1) = (N3.digs t.data.toList).take k ++ [(t[t.size - 1 - k]).toNat - 48] := by
  have hl : k < t.data.toList.length := by rw [← Lib.size_eq]; exact h
  have e : (N3.digs t.data.toList)[k]? = some ((t[t.size - 1 - k]).toNat - 48) := by
    unfold N3.digs
    rw [List.getElem?_map, List.getElem?_reverse hl, ← Lib.size_eq, List.getElem?_eq_getElem (by rw [← Lib.size_eq]; omega)]
    rfl
  rw [List.take_add_one, e]; rfl
theorem digs_len (t : ByteArray) : (N3.digs t.data.toList).length = t.size := by unfold N3.digs; rw [List.length_map, List.length_reverse, ← Lib.size_eq]
theorem okT_facts {t : ByteArray} (h : okT t.data.toList = true) : 0 < t.size ∧ t.size ≤ 200 ∧ t.data.toList.all N3.isD = true ∧ (t.data.toList = [48] ∨ t.data.toList.head? ≠ some 48) := by
  unfold okT at h
  simp only [Bool.and_eq_true, Bool.or_eq_true, decide_eq_true_eq, ← Lib.size_eq] at h
  exact ⟨h.1, h.2.1, h.2.2.1, h.2.2.2⟩
theorem ok_at {t : ByteArray} (h : t.data.toList.all N3.isD = true) {i : Nat} (hi : i < t.size) : 48 ≤ t[i].toNat ∧ t[i].toNat ≤ 57 := by
  have := List.all_eq_true.1 h t[i] (by
    have : t[i] = t.data.toList[i]'(by rw [← Lib.size_eq]; exact hi) := rfl
    rw [this]; exact List.getElem_mem _)
  unfold N3.isD at this
  simpa using this

set_option maxRecDepth 100000 in
set_option maxHeartbeats 2000000 in
theorem digits10_neg (s t : ByteArray) (w : World) (h0 : 0 < s.size) (h45 : s[0].toNat = 45) (ht : s.extract 1 s.size = t) (hok : N3.okS s = true) :
    Calls Tryz.prog 94 #[.string s] w fun e w' => ∃ v', e = .returned (.tuple #[.bool (negS s), v']) ∧ OwnD w.heap.size w' v' (magS s) ∧ Below w.heap.size w w' := by
  obtain ⟨b1, b2⟩ := bare_neg h0 h45
  rw [ht] at b2
  have hb : N3.bare s.data.toList ≠ [48] := fun hb => by have := okT_bad b1 hb; unfold N3.okS at hok; rw [this] at hok; cases hok
  have hT : okT t.data.toList = true := by rw [b2, ← okT_bare (fun _ => hb)]; exact hok
  obtain ⟨ht0, ht200, hall, hhd⟩ := okT_facts hT
  have HALL := Lib.hid hall
  have HHD := Lib.hid hhd
  have HMAG := Lib.hid (show magS s = N3.decV t.data.toList by rw [neg_mag.2, b2])
  have HNEG := Lib.hid (show negS s = true by unfold negS; rw [decide_eq_true b1])
  have hq1 : (0 : Int) < (s.size : Int) := by omega
  have hi0' : (0 : Int) ≤ 0 ∧ (0 : Int) < (s.size : Int) := by omega
  have hi1' : (0 : Int) ≤ 1 ∧ (1 : Int) ≤ (s.size : Int) := by omega
  have hq2 : ((s[0].toNat : Int) == 45) = true := beq_iff_eq.2 (by omega)
  have hw0 : IntKind.i64.wrap ((t.size : Int) - 1) = (t.size : Int) - 1 := by rw [IntKind.wrap_i64]; omega
  clear b1 b2 hb hT hall hhd hok
  go_enter Tryz.func94, Tryz.ntmps94
  go_wp2_with (simp only [ht])
  go_loopw [5, 6] (fun u5 u6 wr => ∃ k : Nat, k ≤ t.size ∧ u6 = .int .i64 ((t.size : Int) - 1 - k) ∧ (t.data.toList = [48] → k = 0) ∧ wr.ownsRow w.heap.size 3 1 u5 ((N3.digs t.data.toList).take k).length ((castL ((N3.digs t.data.toList).take k)).map (Value.int .i64)) ∧ Below w.heap.size w wr) (fun _ u6 _ => (Go.RowKit.intOf u6 + 1).toNat)
  case atStart => exact ⟨0, Nat.zero_le _, by simp, fun _ => rfl, ⟨rfl, .inl ⟨rfl, rfl⟩⟩, Below.refl _ _⟩
  case round =>
    obtain ⟨k, hk, rfl, hz, hown, hBr⟩ := hrel
    rename World => wr
    have hbk := hBr.size
    obtain ⟨ra, rc, rfl, hr1, hr2⟩ := owned_len hown
    unfold maxLen at hr2
    have hlk : ((N3.digs t.data.toList).take k).length = k := by rw [List.length_take, digs_len]; omega
    by_cases h48 : t.data.toList = [48]
    · have hs := str_eq48 h48
      have hs2 : (t.toList != [48]) = false := by rw [bne, hs]; rfl
      obtain rfl := hz h48
      have hsz : t.size = 1 := by rw [Lib.size_eq, h48]; rfl
      have hres : OwnD w.heap.size wr (.slice ra ((N3.digs t.data.toList).take 0).length rc) (magS s) := by
        have h9 := hown
        have e0 : D10.toG (N3.decV [48]) = [] := by rw [show N3.decV [48] = 0 from rfl, D10.toG_zero]
        rw [List.take_zero] at h9 ⊢
        rw [HMAG.out, h48]
        unfold OwnD
        rw [e0]
        exact h9
      have hm1 : ((t.size : Int) - 1 - ((0 : Nat) : Int)) = 0 := by rw [hsz]; rfl
      rw [hm1]
      clear h48 hown hz
      go_wp2
      go_ret2
      exact ⟨_, by first | (rw [HNEG.out]; done) | (rw [HNEG.out]; rfl), hres, hBr⟩
    · have hs := str_ne48 h48
      have hs2 : (t.toList != [48]) = true := by rw [bne, hs]; rfl
      by_cases hkl : k < t.size
      · have hdt := Lib.hid (digs_take hkl)
        have hil : t.size - 1 - k < t.size := by omega
        obtain ⟨hlo, hhi⟩ := ok_at HALL.out hil
        have hei : (t.size : Int) - 1 - (k : Int) = ((t.size - 1 - k : Nat) : Int) := by omega
        have hidx := Lib.hid hei
        rw [hei]
        have hge : ¬ ((t.size - 1 - k : Nat) : Int) < 0 := by omega
        have hki : (0 : Int) ≤ ((t.size - 1 - k : Nat) : Int) ∧ ((t.size - 1 - k : Nat) : Int) < (t.size : Int) := by omega
        have hw1 : IntKind.i64.wrap (((t.size - 1 - k : Nat) : Int) - 1) = ((t.size - 1 - k : Nat) : Int) - 1 := by rw [IntKind.wrap_i64]; omega
        have hw2 : IntKind.u8.wrap ((t[t.size - 1 - k].toNat : Int) - 48) = ((t[t.size - 1 - k].toNat - 48 : Nat) : Int) := by rw [IntKind.wrap_u8]; omega
        have hw3 : IntKind.i64.wrap ((t[t.size - 1 - k].toNat - 48 : Nat) : Int) = ((t[t.size - 1 - k].toNat - 48 : Nat) : Int) := by rw [IntKind.wrap_i64]; omega
        have hon := Lib.hid (casts_snoc ((N3.digs t.data.toList).take k) (t[t.size - 1 - k].toNat - 48))
        have HOWN := Lib.hid hown
        have HLK := Lib.hid hlk
        clear h48 hown hz hei hlk
        go_wp2_with (at_builtin; refine wpList_push E72 rfl _ _ rfl w.heap.size HOWN.out rfl rfl rfl (by unfold maxLen; have := HLK.out; omega) (by have := HLK.out; omega) (by omega) ?_; intro v' w3 ho3 hg3 hB3)
        go_roundw
        case rel =>
          refine ⟨k + 1, by omega, congrArg (Value.int .i64) (by have := hidx.out; omega), fun h => absurd (str_eq48 h) (by rw [hs]; decide), ?_, hBr.trans hB3⟩
          rw [hdt.out, hon.out, List.length_append]
          exact ho3
        case measure => simp [Go.RowKit.intOf]
      · obtain rfl : k = t.size := by omega
        have hei : (t.size : Int) - 1 - (t.size : Int) = -1 := by omega
        rw [hei]
        have hres : OwnD w.heap.size wr (.slice ra ((N3.digs t.data.toList).take t.size).length rc) (magS s) := by
          have e : (N3.digs t.data.toList).take t.size = D10.toG (magS s) := by
            rw [List.take_of_length_le (by rw [digs_len]; exact Nat.le_refl _), HMAG.out]
            exact N3.digs_toG HALL.out (HHD.out.resolve_left h48)
          unfold OwnD
          rw [← e]; exact hown
        clear h48 hown hz hei hlk
        go_wp2
        go_ret2
        exact ⟨_, by first | (rw [HNEG.out]; done) | (rw [HNEG.out]; rfl), hres, hBr⟩
set_option maxRecDepth 100000 in
set_option maxHeartbeats 2000000 in
theorem digits10_pos (t : ByteArray) (w : World) (h0 : 0 < t.size) (h45 : t[0].toNat ≠ 45) (hok : N3.okS t = true) :
    Calls Tryz.prog 94 #[.string t] w fun e w' => ∃ v', e = .returned (.tuple #[.bool (negS t), v']) ∧ OwnD w.heap.size w' v' (magS t) ∧ Below w.heap.size w w' := by
  obtain ⟨s, hs⟩ : ∃ s, s = t := ⟨_, rfl⟩
  obtain ⟨b1, b2⟩ := bare_pos (fun _ => h45)
  have hT : okT t.data.toList = true := by rw [b2, ← okT_bare (fun h => absurd h b1)]; exact hok
  obtain ⟨ht0, ht200, hall, hhd⟩ := okT_facts hT
  have HALL := Lib.hid hall
  have HHD := Lib.hid hhd
  have HMAG := Lib.hid (show magS s = N3.decV t.data.toList by rw [neg_mag.2, hs, ← b2])
  have HNEG := Lib.hid (show negS s = false by unfold negS; rw [hs, decide_eq_false b1])
  have hi0' : (0 : Int) ≤ 0 ∧ (0 : Int) < (t.size : Int) := by omega
  have hq2 : ((t[0].toNat : Int) == 45) = false := beq_eq_false_iff_ne.2 (by omega)
  have hw0 : IntKind.i64.wrap ((t.size : Int) - 1) = (t.size : Int) - 1 := by rw [IntKind.wrap_i64]; omega
  rw [show negS t = negS s by rw [hs], show magS t = magS s by rw [hs]]
  clear b1 b2 hT hall hhd hok hs
  go_enter Tryz.func94, Tryz.ntmps94
  go_wp2_with fail
  go_loopw [5, 6] (fun u5 u6 wr => ∃ k : Nat, k ≤ t.size ∧ u6 = .int .i64 ((t.size : Int) - 1 - k) ∧ (t.data.toList = [48] → k = 0) ∧ wr.ownsRow w.heap.size 3 1 u5 ((N3.digs t.data.toList).take k).length ((castL ((N3.digs t.data.toList).take k)).map (Value.int .i64)) ∧ Below w.heap.size w wr) (fun _ u6 _ => (Go.RowKit.intOf u6 + 1).toNat)
  case atStart => exact ⟨0, Nat.zero_le _, by simp, fun _ => rfl, ⟨rfl, .inl ⟨rfl, rfl⟩⟩, Below.refl _ _⟩
  case round =>
    obtain ⟨k, hk, rfl, hz, hown, hBr⟩ := hrel
    rename World => wr
    have hbk := hBr.size
    obtain ⟨ra, rc, rfl, hr1, hr2⟩ := owned_len hown
    unfold maxLen at hr2
    have hlk : ((N3.digs t.data.toList).take k).length = k := by rw [List.length_take, digs_len]; omega
    by_cases h48 : t.data.toList = [48]
    · have hs := str_eq48 h48
      have hs2 : (t.toList != [48]) = false := by rw [bne, hs]; rfl
      obtain rfl := hz h48
      have hsz : t.size = 1 := by rw [Lib.size_eq, h48]; rfl
      have hres : OwnD w.heap.size wr (.slice ra ((N3.digs t.data.toList).take 0).length rc) (magS s) := by
        have h9 := hown
        have e0 : D10.toG (N3.decV [48]) = [] := by rw [show N3.decV [48] = 0 from rfl, D10.toG_zero]
        rw [List.take_zero] at h9 ⊢
        rw [HMAG.out, h48]
        unfold OwnD
        rw [e0]
        exact h9
      have hm1 : ((t.size : Int) - 1 - ((0 : Nat) : Int)) = 0 := by rw [hsz]; rfl
      rw [hm1]
      clear h48 hown hz
      go_wp2
      go_ret2
      exact ⟨_, by first | (rw [HNEG.out]; done) | (rw [HNEG.out]; rfl), hres, hBr⟩
    · have hs := str_ne48 h48
      have hs2 : (t.toList != [48]) = true := by rw [bne, hs]; rfl
      by_cases hkl : k < t.size
      · have hdt := Lib.hid (digs_take hkl)
        have hil : t.size - 1 - k < t.size := by omega
        obtain ⟨hlo, hhi⟩ := ok_at HALL.out hil
        have hei : (t.size : Int) - 1 - (k : Int) = ((t.size - 1 - k : Nat) : Int) := by omega
        have hidx := Lib.hid hei
        rw [hei]
        have hge : ¬ ((t.size - 1 - k : Nat) : Int) < 0 := by omega
        have hki : (0 : Int) ≤ ((t.size - 1 - k : Nat) : Int) ∧ ((t.size - 1 - k : Nat) : Int) < (t.size : Int) := by omega
        have hw1 : IntKind.i64.wrap (((t.size - 1 - k : Nat) : Int) - 1) = ((t.size - 1 - k : Nat) : Int) - 1 := by rw [IntKind.wrap_i64]; omega
        have hw2 : IntKind.u8.wrap ((t[t.size - 1 - k].toNat : Int) - 48) = ((t[t.size - 1 - k].toNat - 48 : Nat) : Int) := by rw [IntKind.wrap_u8]; omega
        have hw3 : IntKind.i64.wrap ((t[t.size - 1 - k].toNat - 48 : Nat) : Int) = ((t[t.size - 1 - k].toNat - 48 : Nat) : Int) := by rw [IntKind.wrap_i64]; omega
        have hon := Lib.hid (casts_snoc ((N3.digs t.data.toList).take k) (t[t.size - 1 - k].toNat - 48))
        have HOWN := Lib.hid hown
        have HLK := Lib.hid hlk
        clear h48 hown hz hei hlk
        go_wp2_with (at_builtin; refine wpList_push E72 rfl _ _ rfl w.heap.size HOWN.out rfl rfl rfl (by unfold maxLen; have := HLK.out; omega) (by have := HLK.out; omega) (by omega) ?_; intro v' w3 ho3 hg3 hB3)
        go_roundw
        case rel =>
          refine ⟨k + 1, by omega, congrArg (Value.int .i64) (by have := hidx.out; omega), fun h => absurd (str_eq48 h) (by rw [hs]; decide), ?_, hBr.trans hB3⟩
          rw [hdt.out, hon.out, List.length_append]
          exact ho3
        case measure => simp [Go.RowKit.intOf]
      · obtain rfl : k = t.size := by omega
        have hei : (t.size : Int) - 1 - (t.size : Int) = -1 := by omega
        rw [hei]
        have hres : OwnD w.heap.size wr (.slice ra ((N3.digs t.data.toList).take t.size).length rc) (magS s) := by
          have e : (N3.digs t.data.toList).take t.size = D10.toG (magS s) := by
            rw [List.take_of_length_le (by rw [digs_len]; exact Nat.le_refl _), HMAG.out]
            exact N3.digs_toG HALL.out (HHD.out.resolve_left h48)
          unfold OwnD
          rw [← e]; exact hown
        clear h48 hown hz hei hlk
        go_wp2
        go_ret2
        exact ⟨_, by first | (rw [HNEG.out]; done) | (rw [HNEG.out]; rfl), hres, hBr⟩
theorem digits10 (s : ByteArray) (w : World) (hok : N3.okS s = true) :
    Calls Tryz.prog 94 #[.string s] w fun e w' => ∃ v', e = .returned (.tuple #[.bool (negS s), v']) ∧ OwnD w.heap.size w' v' (magS s) ∧ Below w.heap.size w w' := by
  have h0 : 0 < s.size := by
    refine Classical.byContradiction fun hc => ?_
    have : s.data.toList = [] := List.eq_nil_of_length_eq_zero (by rw [← Lib.size_eq]; omega)
    unfold N3.okS at hok
    rw [this] at hok
    cases hok
  by_cases h45 : s[0].toNat = 45
  · exact digits10_neg s _ w h0 h45 rfl hok
  · exact digits10_pos s w h0 h45 hok
end Go.Proofs.YtjnpenljgfdaiaaGreatDoor
