/- package nadirref18: Worst. -/
import Derived.Test.YtmajkagmcdlncaaW1
namespace Go.Proofs.Ytmajkagmcdlncaa
open Go.RowKit Go.Shelf
open L18 (Pass Slot noPass noSlot validB limB worstV wrs accW goneV)

theorem worst_bad {l : List Pass} {os : List OptD} {k : Int} (h : worstB l os k = false) : worstE l os k = 180 ∧ worstL l os k = [] ∧ worstS l os k = [] := by
  unfold worstE worstL worstS
  rw [h]; exact ⟨rfl, rfl, rfl⟩
theorem worst_good2 {l : List Pass} {os : List OptD} {k : Int} (h : worstB l os k = true) : worstE l os k = 0 ∧ worstL l os k = goneV (slotsL os) (wrs (accW l (slotsL os) k) (os.length - 0) [] 0 []) ∧ worstS l os k = wrs (accW l (slotsL os) k) (os.length - 0) [] 0 [] := by
  unfold worstE worstL worstS
  rw [h]; exact ⟨rfl, rfl, rfl⟩
set_option maxRecDepth 100000 in
set_option maxHeartbeats 2000000 in
theorem worst32 (vo vp : Value) (os : List OptD) (l : List Pass) (k : Int) (w : World) (ho : OptsAt w vo os) (hp : PassesAt w vp l) (hcan : CanOK l) :
    Calls Try.prog 32 #[vo, vp, .int .i64 k] w fun e w' => (∃ v1 v2, e = .returned (.tuple #[v1, v2, .int .i64 (worstE l os k)]) ∧ IntsAt w' v1 (worstL l os k) ∧ IntsAt w' v2 (nI (worstS l os k))) ∧ Below w.heap.size w w' := by
  have HO := Lib.hid ho
  have HP := Lib.hid hp
  have HCAN := Lib.hid hcan
  obtain ⟨oa, oc, rfl, hole, hocm⟩ := ho.len
  obtain ⟨pa, pc, rfl, hple, hpcm⟩ := hp.len
  unfold maxLen at hocm hpcm
  have hL := limit46 k
  clear ho hp hcan
  by_cases h12 : os.length ≤ 12
  · have d12 : decide ((12 : Int) < (os.length : Int)) = false := decide_eq_false (by omega)
    cases hl : limB k with
    | false =>
      rw [hl] at hL
      have HL := Lib.hid hL
      obtain ⟨e1, e2, e3⟩ := worst_bad (l := l) (os := os) (k := k) (by unfold worstB; rw [hl, Bool.false_and, Bool.and_false])
      rw [e1, e2, e3]
      clear hl hL e1 e2 e3
      go_enter Try.func32, Try.ntmps32
      go_wp2_with fail
      refine (HL.out _).mono ?_
      rintro e w2 ⟨rfl, rfl⟩
      go_wp2
      exact bodyPost_ret (v := .tuple #[.slice none 0 0, .slice none 0 0, .int .i64 180]) (by simp [results, Try.results32, go_sem]) rfl ⟨⟨_, _, rfl, nil_ints _, nil_ints _⟩, Below.refl _ _⟩
    | true =>
      rw [hl] at hL
      have HL := Lib.hid hL
      have HLB := Lib.hid hl
      clear hl hL
      obtain ⟨rE, hrE⟩ : ∃ x, worstE l os k = x := ⟨_, rfl⟩
      obtain ⟨rL, hrL⟩ : ∃ x, worstL l os k = x := ⟨_, rfl⟩
      obtain ⟨rS, hrS⟩ : ∃ x, worstS l os k = x := ⟨_, rfl⟩
      rw [hrE, hrL, hrS]
      have HE := Lib.hid hrE
      have HLL := Lib.hid hrL
      have HSS := Lib.hid hrS
      clear hrE hrL hrS
      go_enter Try.func32, Try.ntmps32
      go_wp2_with fail
      refine (HL.out _).mono ?_
      rintro e w2 ⟨rfl, rfl⟩
      go_wp2
      go_loopw [9] (fun u9 wr => ∃ i : Nat, i ≤ os.length ∧ u9 = .int .i64 (i : Int) ∧ (∀ j, j < i → validB l (os.getD j dOpt).slots = true) ∧ Below w.heap.size w wr) (fun u9 _ => (os.length - intOf u9).toNat)
      case atStart => exact ⟨0, by omega, rfl, fun j hj => absurd hj (Nat.not_lt_zero _), Below.refl _ _⟩
      case round =>
        obtain ⟨i, hi, rfl, hall, hBr⟩ := hrel
        have HALL := Lib.hid hall
        clear hall
        by_cases hil : i < os.length
        · have j1 : (0 : Int) ≤ (i : Int) ∧ (i : Int) < (os.length : Int) := by omega
          obtain ⟨b, off, vsl, rfl, d0, d1, d2, d3, d4, d5, d6, d7, d8, hsl⟩ := (HO.out.later hBr).get (getD_some dOpt hil)
          generalize hod : os.getD i dOpt = od at d0 d1 d2 d3 d4 d5 d6 d7 d8 hsl
          obtain ⟨sa, sc, rfl, hsle, hscm⟩ := hsl.len
          have HOD := Lib.hid hod
          have hq := valid18 (.agg #[.int .i64 od.hd.id, .int .i64 od.hd.order, .int .i64 od.hd.clause, .int .i64 od.hd.sat, .int .i64 od.hd.fr, .int .i64 od.hd.to, .int .i64 od.hd.look, .int .i64 od.hd.size, .slice sa od.slots.length sc]) _ od l wr ⟨_, rfl, hsl⟩ (PassesAt.later HP.out hBr)
          clear hod hsl
          cases hv : validB l od.slots with
          | true =>
            rw [hv] at hq
            have HV := Lib.hid hv
            clear hv
            go_wp2_with fail
            refine hq.mono ?_
            rintro e w3 ⟨rfl, b3⟩
            clear hq
            go_wp2
            go_roundw
            case rel => exact ⟨i + 1, by omega, by go_num, fun j hj => by
              by_cases hji : j < i
              · exact HALL.out j hji
              · obtain rfl : j = i := by omega
                rw [HOD.out]; exact HV.out, hBr.trans (b3.mono hBr.size)⟩
            case measure => simp [intOf]; omega
          | false =>
            rw [hv] at hq
            obtain ⟨e1, e2, e3⟩ := worst_bad (l := l) (os := os) (k := k) (by
              unfold worstB
              rw [Bool.and_eq_false_iff]; right
              rw [Bool.and_eq_false_iff]; right
              rw [List.all_eq_false]
              exact ⟨_, L18.getD_mem dOpt hil, by rw [HOD.out, hv]; decide⟩)
            have F := Lib.hid (And.intro e1 (And.intro e2 e3))
            clear hv e1 e2 e3
            go_wp2_with fail
            refine hq.mono ?_
            rintro e w3 ⟨rfl, b3⟩
            clear hq
            go_wp2
            refine bodyPost_ret (v := .tuple #[.slice none 0 0, .slice none 0 0, .int .i64 180]) (by simp [results, Try.results32, go_sem]) rfl ⟨⟨_, _, by rw [← HE.out, F.out.1], ?_, ?_⟩, hBr.trans (b3.mono hBr.size)⟩
            · rw [← HLL.out, F.out.2.1]; exact nil_ints _
            · rw [← HSS.out, F.out.2.2]; exact nil_ints _
        · obtain rfl : i = os.length := by omega
          have hgood : worstB l os k = true := by
            unfold worstB
            rw [decide_eq_true h12, HLB.out, Bool.true_and, Bool.true_and, List.all_eq_true]
            intro o ho
            obtain ⟨j, hj, e⟩ := L18.mem_getD dOpt ho
            rw [← e]; exact HALL.out j hj
          obtain ⟨e1, e2, e3⟩ := worst_good2 hgood
          rw [HE.out] at e1
          rw [HLL.out] at e2
          rw [HSS.out] at e3
          have hA : AllOK l os := all_ok HCAN.out fun o ho => by
            obtain ⟨j, hj, e⟩ := L18.mem_getD dOpt ho
            rw [← e]; exact HALL.out j hj
          have hq := worst59 _ _ os l k hA h12 os.length 0 (by omega) (by omega) [] _ _ wr (fun x hx => by cases hx) (Nat.le_refl _) (HO.out.later hBr) (PassesAt.later HP.out hBr) (IntsF.nil _) (IntsF.nil _)
          have HR := Lib.hid (And.intro e1 (And.intro e2 e3))
          clear hgood e1 e2 e3 hA
          go_wp2_with fail
          go_at_call 59
          refine hq.mono ?_
          rintro e w3 ⟨⟨v1, v2, rfl, h1, h2⟩, b3⟩
          clear hq
          have H12 := Lib.hid (And.intro h1 h2)
          clear h1 h2
          go_wp2
          refine bodyPost_ret (v := .tuple #[v1, v2, .int .i64 0]) (by simp [results, Try.results32, go_sem]) rfl ⟨⟨_, _, by rw [HR.out.1], ?_, ?_⟩, hBr.trans (b3.mono hBr.size)⟩
          · rw [HR.out.2.1]; exact H12.out.1.ints
          · rw [HR.out.2.2]; exact H12.out.2.ints
  · have d12 : decide ((12 : Int) < (os.length : Int)) = true := decide_eq_true (by omega)
    obtain ⟨e1, e2, e3⟩ := worst_bad (l := l) (os := os) (k := k) (by unfold worstB; rw [decide_eq_false h12]; rfl)
    rw [e1, e2, e3]
    clear hL e1 e2 e3
    go_enter Try.func32, Try.ntmps32
    go_wp2
    exact bodyPost_ret (v := .tuple #[.slice none 0 0, .slice none 0 0, .int .i64 180]) (by simp [results, Try.results32, go_sem]) rfl ⟨⟨_, _, rfl, nil_ints _, nil_ints _⟩, Below.refl _ _⟩
end Go.Proofs.Ytmajkagmcdlncaa
