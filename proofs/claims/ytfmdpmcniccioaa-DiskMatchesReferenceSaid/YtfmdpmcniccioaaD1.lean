/- package disk: check, inside, used. -/
import Derived.Test.YtfmdpmcniccioaaProg
import Derived.Test.YtfmdpmcniccioaaDk
import Derived.Outline
import Derived.BigQuiet
import Derived.Deep.QuietTactic
import Derived.IntWalk
namespace Go.Proofs.Ytfmdpmcniccioaa
open Go.RowKit

def checkE (D : DiskD) : Int := if D.off then 331 else 0
theorem check_nil (w : World) : Calls Try.prog 28 #[.pointer none] w fun e w' => e = .returned (.int .i64 1) ∧ w = w' := by
  go_enter Try.func28, Try.ntmps28
  go_wp2
  go_ret
  exact ⟨rfl, rfl⟩
theorem check_any {w : World} {B bD bV : Nat} {vp : Value} {n : Nat} {D : DiskD} (h : DiskAt w B bD bV vp n D) : Calls Try.prog 28 #[.pointer (some ⟨B, 0, none⟩)] w fun e w' => e = .returned (.int .i64 (checkE D)) ∧ w = w' := by
  have i0 := h.box.cell 0
  unfold dkc at i0
  simp only [List.getElem?_toArray, List.getElem?_cons_zero] at i0
  unfold checkE
  cases hD : D.off with
  | true =>
    rw [hD] at i0
    go_enter Try.func28, Try.ntmps28
    go_wp2
    go_ret
    exact ⟨rfl, rfl⟩
  | false =>
    rw [hD] at i0
    go_enter Try.func28, Try.ntmps28
    go_wp2
    go_ret
    exact ⟨rfl, rfl⟩
theorem inside_any {w : World} {B bD bV : Nat} {vp : Value} {n : Nat} {D : DiskD} (h : DiskAt w B bD bV vp n D) (hn : n ≤ 4194304) (off len : Int) : Calls Try.prog 29 #[.pointer (some ⟨B, 0, none⟩), .int .i64 off, .int .i64 len] w fun e w' => e = .returned (.bool (insideB n off len)) ∧ w = w' := by
  have i2 := h.box.cell 2
  unfold dkc at i2
  simp only [List.getElem?_toArray, List.getElem?_cons_succ, List.getElem?_cons_zero] at i2
  have hres : ∀ a b c d : Bool, decide (0 ≤ off) = a → decide (0 ≤ len) = b → decide (off ≤ n) = c → decide (len ≤ n - off) = d → insideB n off len = (a && b && c && d) := by
    intro a b c d h1 h2 h3 h4; unfold insideB; rw [h1, h2, h3, h4]
  have HR := Lib.hid hres
  clear hres h
  by_cases h1 : 0 ≤ off
  · have d1 : decide (0 ≤ off) = true := decide_eq_true h1
    by_cases h2 : 0 ≤ len
    · have d2 : decide (0 ≤ len) = true := decide_eq_true h2
      by_cases h3 : off ≤ n
      · have d3 : decide (off ≤ (n : Int)) = true := decide_eq_true h3
        have hw : IntKind.i64.wrap ((n : Int) - off) = (n : Int) - off := by rw [IntKind.wrap_i64]; omega
        by_cases h4 : len ≤ n - off
        · have d4 : decide (len ≤ (n : Int) - off) = true := decide_eq_true h4
          have H := Lib.hid (HR.out _ _ _ _ d1 d2 d3 d4)
          clear h1 h2 h3 h4 HR
          go_enter Try.func29, Try.ntmps29
          go_wp2
          go_ret
          exact ⟨by rw [H.out]; rfl, rfl⟩
        · have d4 : decide (len ≤ (n : Int) - off) = false := decide_eq_false h4
          have H := Lib.hid (HR.out _ _ _ _ d1 d2 d3 d4)
          clear h1 h2 h3 h4 HR
          go_enter Try.func29, Try.ntmps29
          go_wp2
          go_ret
          exact ⟨by rw [H.out]; rfl, rfl⟩
      · have d3 : decide (off ≤ (n : Int)) = false := decide_eq_false h3
        have H := Lib.hid (HR.out _ _ _ _ d1 d2 d3 rfl)
        clear h1 h2 h3 HR
        go_enter Try.func29, Try.ntmps29
        go_wp2
        go_ret
        exact ⟨by rw [H.out]; simp, rfl⟩
    · have d2 : decide (0 ≤ len) = false := decide_eq_false h2
      have H := Lib.hid (HR.out _ _ _ _ d1 d2 rfl rfl)
      clear h1 h2 HR
      go_enter Try.func29, Try.ntmps29
      go_wp2
      go_ret
      exact ⟨by rw [H.out]; simp, rfl⟩
  · have d1 : decide (0 ≤ off) = false := decide_eq_false h1
    have H := Lib.hid (HR.out _ _ _ _ d1 rfl rfl rfl)
    clear h1 HR
    go_enter Try.func29, Try.ntmps29
    go_wp2
    go_ret
    exact ⟨by rw [H.out]; simp, rfl⟩
/-- used: the two cells of the power of a disk. -/
theorem used_any {w : World} {B bD bV : Nat} {vp : Value} {n : Nat} {D : DiskD} (h : DiskAt w B bD bV vp n D) (hl : 0 ≤ D.left) (hm : D.left ≤ 9223372036854775807) :
    Calls Try.prog 36 #[.pointer (some ⟨B, 0, none⟩)] w fun e w' => e = .returned (.tuple #[]) ∧ DiskAt w' B bD bV vp n (usedD D) ∧ Frm (fun k => k = B) w w' := by
  have i0 := h.box.cell 0
  have i1 := h.box.cell 1
  have f0 := h.box.frozen 0
  have f1 := h.box.frozen 1
  unfold dkc at i0 i1
  simp only [List.getElem?_toArray, List.getElem?_cons_succ, List.getElem?_cons_zero] at i0 i1
  have H := Lib.hid h
  have hU : usedD D = if D.left = 0 then D else { D with left := D.left - 1, off := decide (D.left - 1 = 0) } := rfl
  clear h
  by_cases h0 : D.left = 0
  · rw [if_pos h0] at hU
    rw [h0] at i1
    have HU := Lib.hid hU
    clear hU h0
    go_enter Try.func36, Try.ntmps36
    go_wp2
    refine bodyPost_ret (v := .tuple #[]) (by simp [results, Try.results36, go_sem]) rfl ?_
    exact ⟨rfl, by rw [HU.out]; exact H.out, Frm.refl _ _⟩
  · rw [if_neg h0] at hU
    have HU := Lib.hid hU
    have hw : IntKind.i64.wrap (D.left - 1) = D.left - 1 := by rw [IntKind.wrap_i64]; omega
    have q0 : (D.left == 0) = false := beq_eq_false_iff_ne.2 h0
    clear hU
    have fin : ∀ b : Bool, decide (D.left - 1 = 0) = b → Hid (DiskAt ((w.setCell ⟨B, 1, none⟩ (.int .i64 (D.left - 1))).setCell ⟨B, 0, none⟩ (.bool b)) B bD bV vp n (usedD D)) := by
      intro b hb
      rw [HU.out, hb]
      obtain ⟨k1, k2, k3, k4, k5⟩ := H.out
      have nD := H.out.neD
      have nV := H.out.neV
      have nP := H.out.neP
      exact ⟨(k1.set 1 _).set 0 _, (k2.other _ nD.symm).other _ nD.symm, (k3.other _ nV.symm).other _ nV.symm, owned_kept k4 (fun g hg => (Below.heap_setCell _ _ _ _ (nP g hg).1).trans (Below.heap_setCell _ _ _ _ (nP g hg).1)), k5⟩
    by_cases h1 : D.left - 1 = 0
    · have F := fin true (decide_eq_true h1)
      have q1 : (D.left - 1 == 0) = true := beq_iff_eq.2 h1
      clear fin h1
      go_enter Try.func36, Try.ntmps36
      go_wp2
      go_end0
      exact ⟨rfl, F.out, ((Frm.refl (fun k => k = B) w).setCell (fun _ => rfl) _).setCell (fun _ => rfl) _⟩
    · have F := fin false (decide_eq_false h1)
      have q1 : (D.left - 1 == 0) = false := beq_eq_false_iff_ne.2 h1
      clear fin
      go_enter Try.func36, Try.ntmps36
      go_wp2
      go_end0
      exact ⟨rfl, F.out, ((Frm.refl (fun k => k = B) w).setCell (fun _ => rfl) _).setCell (fun _ => rfl) _⟩
end Go.Proofs.Ytfmdpmcniccioaa
