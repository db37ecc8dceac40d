/- package disk: New, Size, Pending, Sync, Cut. -/
import Derived.Test.YtfmdpmcniccioaaD2
import Derived.RegionTactic
import Derived.BigRegion
import Derived.Laws.MakeOwn
namespace Go.Proofs.Ytfmdpmcniccioaa
open Go.RowKit

theorem E40 : ElemOK Try.prog 40 5 (.int .u8 0) 1 1 := ⟨Try.underlying40, by kernel_rfl, rfl, by decide⟩
theorem E63 : ElemOK Try.prog 63 69 (.agg #[.int .i64 0, .string ⟨#[]⟩]) 2 24 := ⟨Try.underlying63, by kernel_rfl, rfl, by decide⟩
theorem made_bytes (n : Nat) : madeCells #[Value.int .u8 0] n = (bcs (List.replicate n 0)).toArray := by
  apply Array.toList_inj.1
  rw [toList_madeCells_one]
  simp [bcs]
theorem mk40 (n : Nat) (hn : n ≤ 4194304) (w : World) : (Instr.makeSlice 40 (.int .i64 n) (.int .i64 n)).run Try.prog w = .ok (.slice (some ⟨w.heap.size, 0, none⟩) n n) (w.alloc (.cells (bcs (List.replicate n 0)).toArray 5)) := by
  obtain ⟨i, hi, hz0, hz1, hz2⟩ := info_parts E40.info
  have h := run_make (P := Try.prog) w 40 5 i _ E40.und hi hz0 .i64 .i64 n n (by omega) (Int.le_refl _) (by rw [hz2]; omega) (by omega)
  rw [← made_bytes]
  rw [Int.toNat_natCast, hz1, Nat.mul_one] at h
  exact h
theorem new_no (size : Int) (w : World) (h : size < 1 ∨ 4194304 < size) : Calls Try.prog 13 #[.int .i64 size] w fun e w' => e = .returned (.tuple #[.pointer none, .int .i64 2]) ∧ w = w' := by
  by_cases h1 : size < 1
  · have d1 : decide (size < 1) = true := decide_eq_true h1
    clear h
    go_enter Try.func13, Try.ntmps13
    go_wp2
    go_ret2
    exact ⟨rfl, rfl⟩
  · have h2 : 4194304 < size := by omega
    have d1 : decide (size < 1) = false := decide_eq_false h1
    have d2 : decide (4194304 < size) = true := decide_eq_true h2
    clear h
    go_enter Try.func13, Try.ntmps13
    go_wp2
    go_ret2
    exact ⟨rfl, rfl⟩
theorem new_yes (n : Nat) (w : World) (h1 : 1 ≤ n) (h2 : n ≤ 4194304) : Calls Try.prog 13 #[.int .i64 (n : Nat)] w fun e w' => ∃ B bD bV, e = .returned (.tuple #[.pointer (some ⟨B, 0, none⟩), .int .i64 0]) ∧
    DiskAt w' B bD bV (.slice none 0 0) n (newD n) ∧ w.heap.size ≤ B ∧ w.heap.size ≤ bD ∧ w.heap.size ≤ bV ∧ Below w.heap.size w w' := by
  have d1 : decide ((n : Int) < 1) = false := decide_eq_false (by omega)
  have d2 : decide ((4194304 : Int) < (n : Int)) = false := decide_eq_false (by omega)
  have hmk := mk40 n h2
  have H := Lib.hid (And.intro h1 h2)
  clear h1 h2
  go_enter Try.func13, Try.ntmps13
  go_wp2
  go_region
  all_goals (
    go_wp2
    go_ret2
    have hA : Below w.heap.size w ((((w.alloc (.cells (bcs (List.replicate n 0)).toArray 5)).alloc (.cells (bcs (List.replicate n 0)).toArray 5)))) := ((Below.refl _ _).alloc (Nat.le_refl _) _).alloc (by simp) _
    have ka := (Blk.new w (bcs (List.replicate n 0)).toArray 5).alloc (.cells (bcs (List.replicate n 0)).toArray 5)
    have kb := Blk.newAt (w.alloc (.cells (bcs (List.replicate n 0)).toArray 5)) (bcs (List.replicate n 0)).toArray 5 (n := w.heap.size + 1) (by simp)
    first
      | exact ⟨_, _, _, rfl, ⟨Blk.newAt _ _ _ (by simp), ka.alloc _, kb.alloc _, World.ownsRow_nil _ _ _ _, by simp⟩, by omega, by omega, by omega, (hA.alloc (by simp; omega) _).drew⟩
      | exact ⟨_, _, _, rfl, ⟨Blk.newAt _ _ _ (by simp), kb.alloc _, ka.alloc _, World.ownsRow_nil _ _ _ _, by simp⟩, by omega, by omega, by omega, (hA.alloc (by simp; omega) _).drew⟩)
theorem retI {a b : Int} (h : a = b) : Ending.returned (.int .i64 a) = .returned (.int .i64 b) := by rw [h]
theorem size_nil (w : World) : Calls Try.prog 16 #[.pointer none] w fun e w' => e = .returned (.int .i64 0) ∧ w = w' := by
  go_enter Try.func16, Try.ntmps16
  go_wp2
  go_ret
  exact ⟨rfl, rfl⟩
theorem size_any {w : World} {B bD bV : Nat} {vp : Value} {n : Nat} {D : DiskD} (h : DiskAt w B bD bV vp n D) : Calls Try.prog 16 #[.pointer (some ⟨B, 0, none⟩)] w fun e w' => e = .returned (.int .i64 (n : Nat)) ∧ w = w' := by
  have i2 := h.box.cell 2
  unfold dkc at i2
  simp only [List.getElem?_toArray, List.getElem?_cons_succ, List.getElem?_cons_zero] at i2
  clear h
  go_enter Try.func16, Try.ntmps16
  go_wp2
  go_ret
  exact ⟨rfl, rfl⟩
theorem pending_nil (w : World) : Calls Try.prog 17 #[.pointer none] w fun e w' => e = .returned (.int .i64 0) ∧ w = w' := by
  go_enter Try.func17, Try.ntmps17
  go_wp2
  go_ret
  exact ⟨rfl, rfl⟩
theorem pending_any {w : World} {B bD bV : Nat} {vp : Value} {n : Nat} {D : DiskD} (h : DiskAt w B bD bV vp n D) : Calls Try.prog 17 #[.pointer (some ⟨B, 0, none⟩)] w fun e w' => e = .returned (.int .i64 (D.pend.length : Nat)) ∧ w = w' := by
  have i4 := h.box.cell 4
  unfold dkc at i4
  simp only [List.getElem?_toArray, List.getElem?_cons_succ, List.getElem?_cons_zero] at i4
  obtain ⟨a, c, rfl, -, -⟩ := owned_len h.pen
  clear h
  go_enter Try.func17, Try.ntmps17
  go_wp2
  go_ret
  exact ⟨rfl, rfl⟩
theorem cut_nil (k : Int) (w : World) : Calls Try.prog 24 #[.pointer none, .int .i64 k] w fun e w' => e = .returned (.int .i64 1) ∧ w = w' := by
  go_enter Try.func24, Try.ntmps24
  go_wp2_with fail
  refine (check_nil _).mono ?_
  rintro e w' ⟨rfl, rfl⟩
  go_wp2
  go_ret
  exact ⟨rfl, rfl⟩
theorem cut_any {w : World} {B bD bV : Nat} {vp : Value} {n : Nat} {D : DiskD} (h : DiskAt w B bD bV vp n D) (k : Int) : Calls Try.prog 24 #[.pointer (some ⟨B, 0, none⟩), .int .i64 k] w fun e w' => e = .returned (.int .i64 (cutE D k)) ∧ DiskAt w' B bD bV vp n (cutD D k) ∧ Frm (fun i => i = B) w w' := by
  have hc := check_any h
  have i0 := h.box.cell 0
  have i1 := h.box.cell 1
  have f0 := h.box.frozen 0
  have f1 := h.box.frozen 1
  unfold dkc at i0 i1
  simp only [List.getElem?_toArray, List.getElem?_cons_succ, List.getElem?_cons_zero] at i0 i1
  have HC : Hid (cutE D k = if D.off then 331 else if k < 0 then 2 else 0) := rfl
  have HD : Hid (cutD D k = if cutE D k = 0 then { D with off := decide (k = 0), left := k } else D) := rfl
  have H := Lib.hid h
  unfold checkE at hc
  clear h
  cases hD : D.off with
  | true =>
    rw [hD] at hc i0
    have e1 : Hid (cutE D k = 331) := by rw [HC.out, hD]; rfl
    have e2 : Hid (cutD D k = D) := by rw [HD.out, e1.out]; rfl
    clear hD
    go_enter Try.func24, Try.ntmps24
    go_wp2_with fail
    refine hc.mono ?_
    rintro e w' ⟨rfl, rfl⟩
    clear hc
    go_wp2
    go_ret
    exact ⟨retI e1.out.symm, by rw [e2.out]; exact H.out, Frm.refl _ _⟩
  | false =>
    rw [hD] at hc i0
    by_cases hk : k < 0
    · have e1 : Hid (cutE D k = 2) := by rw [HC.out, hD, if_pos hk]; rfl
      have e2 : Hid (cutD D k = D) := by rw [HD.out, e1.out]; rfl
      have d1 : decide (k < 0) = true := decide_eq_true hk
      clear hD
      go_enter Try.func24, Try.ntmps24
      go_wp2_with fail
      refine hc.mono ?_
      rintro e w' ⟨rfl, rfl⟩
      clear hc
      go_wp2
      go_ret
      exact ⟨retI e1.out.symm, by rw [e2.out]; exact H.out, Frm.refl _ _⟩
    · have e1 : Hid (cutE D k = 0) := by rw [HC.out, hD, if_neg hk]; rfl
      have e2 : Hid (cutD D k = { D with off := decide (k = 0), left := k }) := by rw [HD.out, e1.out]; rfl
      have d1 : decide (k < 0) = false := decide_eq_false hk
      have fin : ∀ b : Bool, decide (k = 0) = b → Hid (DiskAt ((w.setCell ⟨B, 0, none⟩ (.bool b)).setCell ⟨B, 1, none⟩ (.int .i64 k)) B bD bV vp n (cutD D k)) := by
        intro b hb
        rw [e2.out, hb]
        obtain ⟨k1, k2, k3, k4, k5⟩ := H.out
        have nD := H.out.neD
        have nV := H.out.neV
        have nP := H.out.neP
        exact ⟨(k1.set 0 _).set 1 _, (k2.other _ nD.symm).other _ nD.symm, (k3.other _ nV.symm).other _ nV.symm, owned_kept k4 (fun g hg => (Below.heap_setCell _ _ _ _ (nP g hg).1).trans (Below.heap_setCell _ _ _ _ (nP g hg).1)), k5⟩
      clear hD
      by_cases h0 : k = 0
      · have F := fin true (decide_eq_true h0)
        have q1 : (k == 0) = true := beq_iff_eq.2 h0
        clear fin h0 hk
        go_enter Try.func24, Try.ntmps24
        go_wp2_with fail
        refine hc.mono ?_
        rintro e w' ⟨rfl, rfl⟩
        clear hc
        go_wp2
        go_ret
        exact ⟨retI e1.out.symm, F.out, ((Frm.refl (fun i => i = B) w).setCell (fun _ => rfl) _).setCell (fun _ => rfl) _⟩
      · have F := fin false (decide_eq_false h0)
        have q1 : (k == 0) = false := beq_eq_false_iff_ne.2 h0
        clear fin h0 hk
        go_enter Try.func24, Try.ntmps24
        go_wp2_with fail
        refine hc.mono ?_
        rintro e w' ⟨rfl, rfl⟩
        clear hc
        go_wp2
        go_ret
        exact ⟨retI e1.out.symm, F.out, ((Frm.refl (fun i => i = B) w).setCell (fun _ => rfl) _).setCell (fun _ => rfl) _⟩
end Go.Proofs.Ytfmdpmcniccioaa
