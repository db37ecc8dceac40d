/- package loss: Worst, whole. -/
import Derived.Test.YtmajkagmcdlncaaE6
namespace Go.Proofs.Ytmajkagmcdlncaa
open Go.RowKit Go.Shelf
open L18 (Pass Slot noPass noSlot validB ownI passesV ownV mostV goneV accW worstV pickL limB)

theorem nil_ints (W : World) : IntsAt W (.slice none 0 0) [] := ⟨none, 0, rfl, Nat.le_refl _, Nat.zero_le _, fun h => absurd h (Nat.lt_irrefl 0)⟩
set_option maxRecDepth 100000 in
set_option maxHeartbeats 2000000 in
theorem worst_no (vo vp : Value) (os : List OptD) (l : List Pass) (k : Int) (w : World) (ho : OptsAt w vo os) (hp : PassesAt w vp l) (hno : worstB l os k = false) :
    Calls Try.prog 31 #[vo, vp, .int .i64 k] w fun e w' => e = .returned (.tuple #[.slice none 0 0, .slice none 0 0, .int .i64 180]) ∧ Below w.heap.size w w' := by
  have hL := limit45 k
  obtain ⟨V, hV⟩ : ∃ V, V = (((w.alloc (.cells #[vo] 39)).alloc (.cells #[vp] 32)).alloc (.cells #[.int .i64 k] 3)).alloc (.cells #[.slice none 0 0] 23) := ⟨_, rfl⟩
  have hB0 : Below w.heap.size w V := by rw [hV]; exact ((((Below.refl _ _).alloc (Nat.le_refl _) _).alloc (by simp) _).alloc (by simp; omega) _).alloc (by simp; omega) _
  have kO : Blk V w.heap.size #[vo] 39 := by rw [hV]; exact (((Blk.new _ _ _).alloc _).alloc _).alloc _
  have kP : Blk V (w.heap.size + 1) #[vp] 32 := by rw [hV]; exact ((Blk.newAt _ _ _ (by simp)).alloc _).alloc _
  have kK : Blk V (w.heap.size + 2) #[.int .i64 k] 3 := by rw [hV]; exact (Blk.newAt _ _ _ (by simp)).alloc _
  have kS : Blk V (w.heap.size + 3) #[.slice none 0 0] 23 := by rw [hV]; exact Blk.newAt _ _ _ (by simp)
  have hsV : V.heap.size = w.heap.size + 4 := by rw [hV]; simp
  have hx := contains54 vo _ os _ V (ho.later hB0) (bad53_ans V os ⟨w.heap.size + 1, 0, none⟩ vp l (kP.cell 0) (hp.later hB0))
  have cO := kO.cell 0
  have cK := kK.cell 0
  simp at cO cK
  have cS : V.cell? ⟨w.heap.size + 1 + 1 + 1, 0, none⟩ = some (.slice none 0 0) := kS.cell 0
  have fS : V.frozen? ⟨w.heap.size + 1 + 1 + 1, 0, none⟩ = false := kS.frozen 0
  have HX := Lib.hid hx
  have HKS := Lib.hid kS
  have hBW : Below w.heap.size w (V.setCell ⟨w.heap.size + 1 + 1 + 1, 0, none⟩ (.slice none 0 0)) := hB0.setCell (by simp; omega) _
  have hcS : (V.setCell ⟨w.heap.size + 1 + 1 + 1, 0, none⟩ (.slice none 0 0)).cell? ⟨w.heap.size + 1 + 1 + 1, 0, none⟩ = some (.slice none 0 0) := World.cell?_setCell_same _ _ _ cS
  obtain ⟨oa, oc, rfl, ole, ocm⟩ := ho.len
  obtain ⟨pa, pc, rfl, ple, pcm⟩ := hp.len
  unfold maxLen at ocm pcm
  clear hx ho hp kO kP kK kS
  by_cases h12 : os.length ≤ 12
  · have d12 : decide ((12 : Int) < (os.length : Int)) = false := decide_eq_false (by omega)
    cases hl : limB k with
    | false =>
      rw [hl] at hL
      have HL := Lib.hid hL
      clear hl hL hno
      go_enter Try.func31, Try.ntmps31
      go_upto_region 2 with (fail)
      rw [← hV]
      clear hV
      go_wp2_with fail
      refine (HL.out _).mono ?_
      rintro e w2 ⟨rfl, rfl⟩
      go_wp2
      exact bodyPost_ret (v := .tuple #[.slice none 0 0, .slice none 0 0, .int .i64 180]) (by simp [results, Try.results31, go_sem, hcS]) rfl ⟨rfl, hBW⟩
    | true =>
      rw [hl] at hL
      have HL := Lib.hid hL
      have hany : (os.any fun o => !validB l o.slots) = true := by
        have hq : (os.all fun o => validB l o.slots) = false := by
          unfold worstB at hno
          rw [decide_eq_true h12, hl] at hno
          simpa using hno
        rw [List.all_eq_not_any_not] at hq
        simpa using hq
      rw [hany] at HX
      clear hl hL hno hany
      go_enter Try.func31, Try.ntmps31
      go_upto_region 2 with (fail)
      rw [← hV]
      clear hV
      go_wp2_with fail
      refine (HL.out _).mono ?_
      rintro e w2 ⟨rfl, rfl⟩
      go_wp2_with fail
      refine HX.out.mono ?_
      rintro e w1 ⟨rfl, hB1⟩
      have kS1 := HKS.out.below hB1 HKS.out.lt
      have cS : w1.cell? ⟨w.heap.size + 1 + 1 + 1, 0, none⟩ = some (.slice none 0 0) := kS1.cell 0
      have fS : w1.frozen? ⟨w.heap.size + 1 + 1 + 1, 0, none⟩ = false := kS1.frozen 0
      have hBW1 : Below w.heap.size w (w1.setCell ⟨w.heap.size + 1 + 1 + 1, 0, none⟩ (.slice none 0 0)) := (hB0.trans (hB1.mono hB0.size)).setCell (by simp; omega) _
      have hcS1 : (w1.setCell ⟨w.heap.size + 1 + 1 + 1, 0, none⟩ (.slice none 0 0)).cell? ⟨w.heap.size + 1 + 1 + 1, 0, none⟩ = some (.slice none 0 0) := World.cell?_setCell_same _ _ _ cS
      clear HX HKS kS1 hcS hBW
      go_wp2
      exact bodyPost_ret (v := .tuple #[.slice none 0 0, .slice none 0 0, .int .i64 180]) (by simp [results, Try.results31, go_sem, hcS1]) rfl ⟨rfl, hBW1⟩
  · have d12 : decide ((12 : Int) < (os.length : Int)) = true := decide_eq_true (by omega)
    clear hL hno HX HKS
    go_enter Try.func31, Try.ntmps31
    go_upto_region 2 with (fail)
    rw [← hV]
    clear hV
    go_wp2
    exact bodyPost_ret (v := .tuple #[.slice none 0 0, .slice none 0 0, .int .i64 180]) (by simp [results, Try.results31, go_sem, hcS]) rfl ⟨rfl, hBW⟩
theorem worst31 (vo vp : Value) (os : List OptD) (l : List Pass) (k : Int) (w : World) (ho : OptsAt w vo os) (hp : PassesAt w vp l) (hcan : CanOK l) :
    Calls Try.prog 31 #[vo, vp, .int .i64 k] w fun e w' => (∃ v1 v2, e = .returned (.tuple #[v1, v2, .int .i64 (worstE l os k)]) ∧ IntsAt w' v1 (worstL l os k) ∧ IntsAt w' v2 (nI (worstS l os k))) ∧ Below w.heap.size w w' := by
  unfold worstE worstL worstS
  by_cases hb : worstB l os k = true
  · rw [if_pos hb, if_pos hb, if_pos hb]
    have h := hb
    unfold worstB at h
    simp only [Bool.and_eq_true, decide_eq_true_eq] at h
    refine worst_yes vo vp os l k w ho hp hcan h.1 h.2.1 ?_
    rw [List.all_eq_not_any_not] at h
    simpa using h.2.2
  · rw [if_neg hb, if_neg hb, if_neg hb]
    refine (worst_no vo vp os l k w ho hp (by simpa using hb)).mono ?_
    rintro e w' ⟨rfl, hB⟩
    exact ⟨⟨_, _, rfl, nil_ints _, nil_ints _⟩, hB⟩
end Go.Proofs.Ytmajkagmcdlncaa
