/- Crashes without survivors, and with all of them. -/
import Derived.Test.YtfmdpmcniccioaaOn
namespace Go.Proofs.Ytfmdpmcniccioaa
open Go.RowKit Go.Shelf Lib

theorem crashD_nil (D : DiskD) (torn : Int) : (crashD D [] torn).dur = D.dur ∧ (crashD D [] torn).vis = D.dur ∧ (crashD D [] torn).pend = [] := by
  have : keptW D [] = [] := by unfold keptW keptI; simp
  have h2 : crashB D [] torn = D.dur := by unfold crashB; rw [this]; rfl
  exact ⟨h2, h2, rfl⟩
abbrev allI (m : Nat) : List Int := (List.range m).map (fun i : Nat => (i : Int))
theorem lastTorn_neg : ∀ l : List WrD, lastTorn (-1) l = l := by
  intro l
  induction l with
  | nil => rfl
  | cons w l ih =>
    cases l with
    | nil => rfl
    | cons x l => show w :: lastTorn (-1) (x :: l) = _; rw [ih]
theorem keptW_all (D : DiskD) : keptW D (allI D.pend.length) = D.pend := by
  unfold keptW
  have : keptI D.pend.length (allI D.pend.length) = List.range D.pend.length := by
    unfold keptI
    refine List.filter_eq_self.2 (fun i hi => ?_)
    simp at hi ⊢
    exact ⟨i, hi, rfl⟩
  rw [this]
  refine List.ext_getElem? fun i => ?_
  by_cases hi : i < D.pend.length
  · rw [List.getElem?_map, List.getElem?_range hi, List.getElem?_eq_getElem hi]
    simp [List.getElem?_eq_getElem hi]
  · rw [List.getElem?_eq_none (by simp; omega), List.getElem?_eq_none (by omega)]
theorem crash_all {n : Nat} {D : DiskD} (h : Inv n D) : (crashD D (allI D.pend.length) (-1)).vis = D.vis ∧ (crashD D (allI D.pend.length) (-1)).dur = D.vis := by
  have : crashB D (allI D.pend.length) (-1) = D.vis := by unfold crashB; rw [keptW_all, lastTorn_neg, h.vis]
  exact ⟨this, this⟩
theorem ints_nil (W : World) : IntsAt W (.slice none 0 0) [] := ⟨none, 0, rfl, Nat.le_refl _, by unfold maxLen; omega, fun h => absurd h (by simp)⟩
theorem allI_succ (m : Nat) : allI (m + 1) = allI m ++ [(m : Int)] := by unfold allI; rw [List.range_succ, List.map_append]; rfl
theorem allI_len (m : Nat) : (allI m).length = m := by simp
end Go.Proofs.Ytfmdpmcniccioaa
