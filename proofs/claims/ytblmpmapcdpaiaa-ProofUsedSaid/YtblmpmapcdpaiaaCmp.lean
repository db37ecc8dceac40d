/- What Solve returns holds; what holds excludes; plainly. -/
import Derived.Test.YtblmpmapcdpaiaaSnd
import Derived.Test.YtblmpmapcdpaiaaK7
namespace Go.Proofs.Ytblmpmapcdpaiaa
open Go.RowKit Lib

theorem checkV_ok {p : ProgD} {rows : List RowD} {l : List StepD} (h : checkV p rows l = -1) : validB p = true ∧ l.length ≤ 8192 ∧ 0 < l.length ∧ wrongV rows l p.vars.toNat l.length 0 (fun _ => -1) = -1 := by
  unfold checkV at h
  split at h
  · rename_i hc
    split at h
    · omega
    · exact ⟨hc.1, hc.2, by omega, h⟩
  · omega
theorem checkV_mk {p : ProgD} {rows : List RowD} {l : List StepD} (h1 : validB p = true) (h2 : l.length ≤ 8192) (h3 : 0 < l.length) (h4 : wrongV rows l p.vars.toNat l.length 0 (fun _ => -1) = -1) : checkV p rows l = -1 := by
  unfold checkV
  rw [if_pos ⟨h1, h2⟩, if_neg (by omega)]
  exact h4
theorem checkV_sound {p : ProgD} {rows : List RowD} {l : List StepD} (hro : ∃ n : Nat, p.vars = n ∧ RowsOK n rows) (h : checkV p rows l = -1) (set : Nat) :
    ∃ j, j < rows.length ∧ usedV l l.length 0 (fun _ => false) j = true ∧ keptB (rows.getD j rowE) set = false := by
  obtain ⟨n, hn, hr⟩ := hro
  obtain ⟨-, -, -, hw⟩ := checkV_ok h
  rw [hn, Int.toNat_natCast] at hw
  exact wrongV_sound hr _ _ _ hw (fun _ => ⟨.inr (.inr rfl), fun _ => rfl⟩) set (agreesD_open n set) _
theorem keepsB_get {rows : List RowD} {set j : Nat} (h : keepsB rows set = true) (hj : j < rows.length) : keptB (rows.getD j rowE) set = true :=
  List.all_eq_true.1 h _ (List.mem_of_getElem? (getD_some rowE hj))
/-- What refutes excludes every choice. -/
theorem refutes_sound {p : ProgD} {l : List StepD} (h : wrongD p l = -1) (set : Nat) : keepsB p.rows set = false := by
  obtain ⟨j, h1, -, h2⟩ := checkV_sound (validB_rows (checkV_ok h).1) h set
  refine Bool.eq_false_iff.2 fun hk => ?_
  rw [keepsB_get hk h1] at h2
  cases h2
theorem getD_app {rows : List RowD} {r : RowD} {j : Nat} (h : j < rows.length) : (rows ++ [r]).getD j rowE = rows.getD j rowE := by
  rw [List.getD_eq_getElem?_getD, List.getD_eq_getElem?_getD, List.getElem?_append_left h]
theorem getD_end {rows : List RowD} {r : RowD} : (rows ++ [r]).getD rows.length rowE = r := by
  rw [List.getD_eq_getElem?_getD, List.getElem?_append_right (Nat.le_refl _)]; simp
/-- What bounds, bounds. -/
theorem bounds_sound {p : ProgD} {l : List StepD} {g : Int} (h : boundsV p l g = true) (set : Nat) (hk : keepsB p.rows set = true) : ch p.gain set ≤ g := by
  unfold boundsV at h
  rw [Bool.and_eq_true] at h
  obtain ⟨hin, hc⟩ := h
  have hc := beq_iff_eq.1 hc
  have hg : -12000000000 ≤ g ∧ g ≤ 12000000000 := by unfold inB at hin; simpa using hin
  have hv := (checkV_ok hc).1
  obtain ⟨j, h1, -, h2⟩ := checkV_sound (goalW_rows hg hv) hc set
  simp only [List.length_append, List.length_singleton] at h1
  by_cases hj : j < p.rows.length
  · rw [getD_app hj, keepsB_get hk hj] at h2
    cases h2
  · obtain rfl : j = p.rows.length := by omega
    rw [getD_end, goalW_eq (validB_true hv).2.2.2.2.2] at h2
    unfold keptB at h2
    have h3 := of_decide_eq_false h2
    simp only [goalS] at h3
    rw [ch_neg] at h3
    omega
theorem proofS_len {p : ProgD} (hm : p.vars ≤ 8) (h0 : 0 ≤ p.vars) : (proofS p).length ≤ 511 := by
  have := grow_len (rowsS p) p.vars.toNat 0 0 0
  unfold proofS
  have h2 : 2 ^ (p.vars.toNat + 1) ≤ 2 ^ 9 := Nat.pow_le_pow_right (by omega) (by omega)
  omega
theorem proofS_ok {p : ProgD} (hv : validB p = true) : 0 < (proofS p).length ∧ wrongV (rowsS p) (proofS p) p.vars.toNat (proofS p).length 0 (fun _ => -1) = -1 := by
  obtain ⟨v1, v2, -, -, -, -⟩ := validB_true hv
  have hm : p.vars = (p.vars.toNat : Int) := by omega
  have hl := rowsS_len hv (m := p.vars.toNat) hm
  have hb := rowsS_bad hv (m := p.vars.toNat) hm
  have h1 := growS_pos hb p.vars.toNat 0 0 0 (by omega) (by simp)
  refine ⟨h1, ?_⟩
  rw [← decN_open]
  exact wrongV_grow (rowsS p) (proofS p) p.vars.toNat (fun r hr => (hl r hr).1) hb p.vars.toNat 0 0 0 (proofS p).length (by omega) (by simp) (Nat.le_refl _) (by rw [Nat.zero_add]; exact Nat.le_refl _) (fun i s hi => by rw [Nat.zero_add]; exact hi)
theorem best_keeps {p : ProgD} {x : Nat × Int} (h : bestS p = some x) : keepsB p.rows x.1 = true ∧ x.2 = ch p.gain x.1 := by
  have hb := best_of p
  rw [h] at hb
  obtain ⟨h1, h2, -⟩ := hb
  unfold allS at h1
  exact ⟨(List.mem_filter.1 h1).2, h2⟩
theorem complete_none {p : ProgD} (hv : validB p = true) (hm : p.vars ≤ 8) (hb : bestS p = none) : wrongD p (proofS p) = -1 := by
  obtain ⟨h1, h2⟩ := proofS_ok hv
  have hl := proofS_len hm (validB_true hv).1
  have e : rowsS p = p.rows := by unfold rowsS; rw [hb]
  rw [e] at h2
  exact checkV_mk hv (by omega) h1 h2
theorem gain_le {p : ProgD} (hv : validB p = true) (set : Nat) : -12000000000 ≤ ch p.gain set ∧ ch p.gain set ≤ 12000000000 := by
  obtain ⟨v1, v2, -, -, v5, v6⟩ := validB_true hv
  have := chK_bd (l := p.gain) (M := 1000000000) (by omega) (fun k => coefOK_get v6 k) set p.gain.length
  unfold ch
  omega
theorem complete_some {p : ProgD} (hv : validB p = true) (hm : p.vars ≤ 8) {x : Nat × Int} (hb : bestS p = some x) :
    boundsV p (proofS p) x.2 = true ∧ (∀ g, g < x.2 → boundsV p (proofS p) g = false) ∧ wrongD p (proofS p) ≠ -1 ∧ -12000000000 ≤ x.2 ∧ x.2 ≤ 12000000000 := by
  obtain ⟨h1, h2⟩ := proofS_ok hv
  have hl := proofS_len hm (validB_true hv).1
  obtain ⟨k1, k2⟩ := best_keeps hb
  have hg := gain_le hv x.1
  rw [← k2] at hg
  have e : rowsS p = p.rows ++ [goalS p.gain x.2] := by unfold rowsS; rw [hb]
  rw [e] at h2
  refine ⟨?_, fun g hlt => ?_, fun hw => ?_, hg⟩
  · unfold boundsV
    rw [goalW_eq (validB_true hv).2.2.2.2.2, checkV_mk hv (by omega) h1 h2]
    unfold inB
    rw [decide_eq_true hg.1, decide_eq_true hg.2]
    rfl
  · refine Bool.eq_false_iff.2 fun h => ?_
    have := bounds_sound h x.1 k1
    omega
  · have := refutes_sound hw x.1
    rw [k1] at this
    cases this
/-- A proof that bounds a gain bounds every greater one. -/
theorem bounds_more {p : ProgD} {l : List StepD} {g h : Int} (hb : boundsV p l g = true) (hgh : g ≤ h) (hh : h ≤ 12000000000) : boundsV p l h = true := by
  unfold boundsV at hb ⊢
  rw [Bool.and_eq_true] at hb ⊢
  obtain ⟨hin, hc⟩ := hb
  have hg : -12000000000 ≤ g ∧ g ≤ 12000000000 := by unfold inB at hin; simpa using hin
  obtain ⟨c1, c2, c3, c4⟩ := checkV_ok (beq_iff_eq.1 hc)
  refine ⟨by unfold inB; simp only [Bool.and_eq_true, decide_eq_true_eq]; omega, beq_iff_eq.2 (checkV_mk c1 c2 c3 (wrongV_stronger ⟨by simp, fun j hj => ?_⟩ _ _ _ c4))⟩
  simp only [List.length_append, List.length_singleton] at hj
  by_cases hj2 : j < p.rows.length
  · rw [getD_app hj2, getD_app hj2]; exact ⟨rfl, Int.le_refl _⟩
  · obtain rfl : j = p.rows.length := by omega
    rw [getD_end, getD_end]
    exact ⟨rfl, by simp only [goalW]; omega⟩
/-- A proof that refutes also refutes with further rows behind, by the same rows. -/
theorem refutes_more {p : ProgD} {l : List StepD} {more : List RowD} (h : wrongD p l = -1) (hv : validB ⟨p.vars, p.rows ++ more, p.gain⟩ = true) : wrongD ⟨p.vars, p.rows ++ more, p.gain⟩ l = -1 ∧ rowsU ⟨p.vars, p.rows ++ more, p.gain⟩ l = rowsU p l := by
  obtain ⟨c1, c2, c3, c4⟩ := checkV_ok h
  have hw : wrongD ⟨p.vars, p.rows ++ more, p.gain⟩ l = -1 := checkV_mk hv c2 c3 (wrongV_stronger ⟨by simp, fun j hj => by
    have e : (p.rows ++ more).getD j rowE = p.rows.getD j rowE := by rw [List.getD_eq_getElem?_getD, List.getD_eq_getElem?_getD, List.getElem?_append_left hj]
    simp only
    rw [e]; exact ⟨rfl, Int.le_refl _⟩⟩ _ _ _ c4)
  refine ⟨hw, ?_⟩
  unfold rowsU
  rw [if_pos hw, if_pos h]
  simp only [List.length_append]
  rw [List.range_add, List.filter_append, List.map_append]
  have : ((List.range more.length).map (p.rows.length + ·)).filter (usedV l l.length 0 fun _ => false) = [] := by
    rw [List.filter_eq_nil_iff]
    intro i hi hu
    obtain ⟨q, -, rfl⟩ := List.mem_map.1 hi
    rcases usedV_lt _ _ _ c4 _ hu with hf | hf
    · cases hf
    · omega
  rw [this]
  simp
end Go.Proofs.Ytblmpmapcdpaiaa
