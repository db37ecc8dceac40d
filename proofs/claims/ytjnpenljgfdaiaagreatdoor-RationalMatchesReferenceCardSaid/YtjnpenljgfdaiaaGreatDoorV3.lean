/- package integer: whether a string is an integer. -/
import Derived.Test.YtjnpenljgfdaiaaGreatDoorV2
namespace Go.Proofs.YtjnpenljgfdaiaaGreatDoor
open Go.RowKit Go.Shelf Lib

theorem mk_toList (d : List UInt8) : (⟨d.toArray⟩ : ByteArray).toList = d := by rw [Lib.toList_data]
theorem bytes_ext {a b : ByteArray} (h : a.data.toList = b.data.toList) : a = b := by
  cases a; cases b
  simp at h
  rw [h]
set_option maxRecDepth 100000 in
set_option maxHeartbeats 1000000 in
theorem isValid_any (s : ByteArray) (w : World) (_hs : s.size ≤ 9223372036854775807) :
    Calls Tryz.prog 93 #[.string s] w fun e w' => e = .returned (.bool (N3.okS s)) ∧ Below w.heap.size w w' := by
  have hp := Tryz.strings_TrimPrefix s ⟨#[45]⟩ w
  rw [show (⟨#[45]⟩ : ByteArray).data.toList = [45] from rfl, N3.prefix_bare] at hp
  unfold N3.okS
  rw [N3.isI_bare]
  have hlen : (N3.bare s.data.toList).length ≤ s.data.toList.length := by
    unfold N3.bare; split
    · rw [List.length_tail]; omega
    · exact Nat.le_refl _
  have hsl : s.data.toList.length = s.size := (Lib.size_eq s).symm
  generalize N3.bare s.data.toList = d at hp hlen
  obtain ⟨D, hD⟩ : ∃ D : ByteArray, D = ⟨d.toArray⟩ := ⟨_, rfl⟩
  rw [← hD] at hp
  have hDl : D.toList = d := by rw [hD, mk_toList]
  have hDd : D.data.toList = d := by rw [hD]
  have hDs : D.size = d.length := by rw [Lib.size_eq, hDd]
  have hp := Lib.hid hp
  clear hD
  by_cases h1 : d = []
  · have q1 : (D.toList = []) = True := eq_true (by rw [hDl, h1])
    have q1b : D.toList.isEmpty = true := by rw [hDl, h1]; rfl
    have hr : (!d.isEmpty && (decide (d.length ≤ 200) && (d.all N3.isD && (decide (s.data.toList = [48]) || decide (d.head? ≠ some 48))))) = false := by rw [h1]; rfl
    rw [hr]
    clear hDl hDd hDs hr hlen
    go_enter Tryz.func93, Tryz.ntmps93
    go_wp2_with fail
    refine hp.out.mono ?_
    rintro e w' ⟨rfl, rfl⟩
    go_wp2_with fail
    all_goals (go_ret; exact ⟨rfl, Below.refl _ _⟩)
  · have q1 : (D.toList = []) = False := eq_false (by rw [hDl]; exact h1)
    have q1b : D.toList.isEmpty = false := by
      rw [hDl]
      cases d with
      | nil => exact absurd rfl h1
      | cons c d => rfl
    by_cases h2 : d.length ≤ 200
    · have q2 : ¬ (200 : Int) < (D.size : Int) := by omega
      have q2b : decide ((200 : Int) < (D.size : Int)) = false := decide_eq_false q2
      have ht := trim_any D w (by omega)
      rw [hDd] at ht
      by_cases h3 : d.all N3.isD = true
      · rw [(N3.trim_digits d).2 h3] at ht
        have HT := Lib.hid ht
        have h0 : 0 < d.length := List.length_pos_iff.2 h1
        have hhead : d.head? = some (d.getD 0 0) := by
          cases d with
          | nil => exact absurd rfl h1
          | cons c d => rfl
        by_cases h4 : s.data.toList = [48]
        · have hr : (!d.isEmpty && (decide (d.length ≤ 200) && (d.all N3.isD && (decide (s.data.toList = [48]) || decide (d.head? ≠ some 48))))) = true := by
            rw [h3, decide_eq_true h2, decide_eq_true h4]
            cases d with
            | nil => exact absurd rfl h1
            | cons c d => rfl
          rw [hr]
          have q4 : (s.toList = [48]) = True := eq_true (by rw [Lib.toList_data]; exact h4)
          have q4b : (s.toList == [48]) = true := by rw [Lib.toList_data, h4]; rfl
          have hDp : 0 < D.size := by omega
          clear hDl hDd hr hlen ht hDs
          go_enter Tryz.func93, Tryz.ntmps93
          go_wp2_with fail
          refine hp.out.mono ?_
          rintro e w' ⟨rfl, rfl⟩
          go_wp2_with fail
          refine HT.out.mono ?_
          rintro e w' ⟨rfl, hB⟩
          go_wp2_with fail
          all_goals (go_ret; exact ⟨rfl, hB⟩)
        · have q4 : (s.toList = [48]) = False := eq_false (by rw [Lib.toList_data]; exact h4)
          have q4b : (s.toList == [48]) = false := by rw [Lib.toList_data]; exact beq_eq_false_iff_ne.2 h4
          have hDp : 0 < D.size := by omega
          have hD0 : D[0] = d.getD 0 0 := by
            have e : D[0] = D.data[0] := rfl
            rw [e, ← Array.getElem_toList]
            simp only [hDd]
            cases d with
            | nil => exact absurd rfl h1
            | cons c d => rfl
          have hr : (!d.isEmpty && (decide (d.length ≤ 200) && (d.all N3.isD && (decide (s.data.toList = [48]) || decide (d.head? ≠ some 48))))) = ((D[0].toNat : Int) != 48) := by
            rw [h3, decide_eq_true h2, decide_eq_false h4, hhead, hD0]
            have hE : d.isEmpty = false := by
              cases d with
              | nil => exact absurd rfl h1
              | cons c d => rfl
            rw [hE, Bool.not_false, Bool.true_and, Bool.true_and, Bool.true_and, Bool.false_or]
            generalize d.getD 0 0 = c
            by_cases hc : c = 48
            · subst hc; rfl
            · have h5 : decide (some c ≠ some 48) = true := decide_eq_true (fun e => hc (Option.some.inj e))
              have h6 : ((c.toNat : Int) != 48) = true := bne_iff_ne.2 (fun e => hc (UInt8.toNat_inj.1 (by show c.toNat = 48; omega)))
              rw [h5, h6]
          rw [hr]
          generalize hcc : ((D[0].toNat : Int) != 48) = cc
          clear hD0
          clear hDl hDd hr hlen ht hDs
          go_enter Tryz.func93, Tryz.ntmps93
          go_wp2_with fail
          refine hp.out.mono ?_
          rintro e w' ⟨rfl, rfl⟩
          go_wp2_with fail
          refine HT.out.mono ?_
          rintro e w' ⟨rfl, hB⟩
          go_wp2_with fail
          all_goals (go_ret; exact ⟨rfl, hB⟩)
      · have h3' : d.all N3.isD = false := by simpa using h3
        have hne : Lib.trimS d N3.tenC ≠ [] := fun e => h3 ((N3.trim_digits d).1 e)
        have hr : (!d.isEmpty && (decide (d.length ≤ 200) && (d.all N3.isD && (decide (s.data.toList = [48]) || decide (d.head? ≠ some 48))))) = false := by
          rw [h3']; simp
        rw [hr]
        obtain ⟨T, hT⟩ : ∃ T : ByteArray, T = ⟨(Lib.trimS d N3.tenC).toArray⟩ := ⟨_, rfl⟩
        rw [← hT] at ht
        have q3 : (T.toList = []) = False := eq_false (by rw [hT, mk_toList]; exact hne)
        have q3b : T.toList.isEmpty = false := by
          rw [hT, mk_toList]
          cases hx : Lib.trimS d N3.tenC with
          | nil => exact absurd hx hne
          | cons c d => rfl
        have HT := Lib.hid ht
        clear hDl hDd hr hlen ht hT hDs
        go_enter Tryz.func93, Tryz.ntmps93
        go_wp2_with fail
        refine hp.out.mono ?_
        rintro e w' ⟨rfl, rfl⟩
        go_wp2_with fail
        refine HT.out.mono ?_
        rintro e w' ⟨rfl, hB⟩
        go_wp2_with fail
        all_goals (go_ret; exact ⟨rfl, hB⟩)
    · have q2 : (200 : Int) < (D.size : Int) := by omega
      have q2b : decide ((200 : Int) < (D.size : Int)) = true := decide_eq_true q2
      have hr : (!d.isEmpty && (decide (d.length ≤ 200) && (d.all N3.isD && (decide (s.data.toList = [48]) || decide (d.head? ≠ some 48))))) = false := by rw [decide_eq_false h2]; simp
      rw [hr]
      clear hDl hDd hr hlen hDs
      go_enter Tryz.func93, Tryz.ntmps93
      go_wp2_with fail
      refine hp.out.mono ?_
      rintro e w' ⟨rfl, rfl⟩
      go_wp2_with fail
      all_goals (go_ret; exact ⟨rfl, Below.refl _ _⟩)
end Go.Proofs.YtjnpenljgfdaiaaGreatDoor
