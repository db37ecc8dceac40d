/- slices.IsSortedFunc at passes; package contact: Proper. -/
import Derived.Test.YtmajkagmcdlncaaA3
namespace Go.Proofs.Ytmajkagmcdlncaa
open Go.RowKit
open L18 (Pass Slot isPassB passOK sgnI orI cmpP noPass)

def sortB (l : List Pass) : Bool := decide (∀ i, i < l.length → 0 < i → L18.beforeB (l.getD i noPass) (l.getD (i - 1) noPass) = false)
theorem sortB_no {l : List Pass} {i : Nat} (hi : i + 1 < l.length) (h : cmpP (l.getD (i + 1) noPass) (l.getD i noPass) < 0) : sortB l = false := by
  unfold sortB
  refine decide_eq_false fun hc => ?_
  have := hc (i + 1) hi (by omega)
  rw [L18.before_cmp, Nat.add_sub_cancel] at this
  exact absurd h (of_decide_eq_false this)
theorem sortB_yes {l : List Pass} (h : ∀ i, i + 1 < l.length → 0 ≤ cmpP (l.getD (i + 1) noPass) (l.getD i noPass)) : sortB l = true := by
  unfold sortB
  refine decide_eq_true fun i hi h0 => ?_
  obtain ⟨j, rfl⟩ : ∃ j, i = j + 1 := ⟨i - 1, by omega⟩
  rw [L18.before_cmp, Nat.add_sub_cancel]
  exact decide_eq_false (by have := h j hi; omega)
set_option maxRecDepth 100000 in
set_option maxHeartbeats 1000000 in
theorem sorted66 (v : Value) (l : List Pass) (w : World) (hv : PassesAt w v l) : Calls Try.prog 66 #[v, .func (.func 67) #[] #[]] w fun e w' => e = .returned (.bool (sortB l)) ∧ Below w.heap.size w w' := by
  have HV := Lib.hid hv
  obtain ⟨a, cap, rfl, hle, hcm, -⟩ := hv
  unfold maxLen at hcm
  go_enter Try.func66, Try.ntmps66
  go_wp2
  go_loopw [5] (fun u5 wr => ∃ k : Nat, k ≤ l.length ∧ u5 = .int .i64 ((k : Int) - 1) ∧ (∀ j, k ≤ j + 1 → j + 1 < l.length → 0 ≤ cmpP (l.getD (j + 1) noPass) (l.getD j noPass)) ∧ Below w.heap.size w wr) (fun u5 _ => (intOf u5 + 1).toNat)
  case atStart => exact ⟨l.length, by omega, rfl, fun j h1 h2 => by omega, Below.refl _ _⟩
  case round =>
    obtain ⟨k, hk, rfl, hpre, hBr⟩ := hrel
    have HP := Lib.hid hpre
    clear hpre
    by_cases hk2 : 2 ≤ k
    · obtain ⟨m, i, rfl, hi⟩ : ∃ m i : Nat, k = m + 2 ∧ i = m + 1 := ⟨k - 2, _, by omega, rfl⟩
      have e1 : ((m + 2 : Nat) : Int) - 1 = (i : Int) := by omega
      rw [e1]
      have hw1 : IntKind.i64.wrap ((i : Int) - 1) = (m : Int) := by rw [IntKind.wrap_i64]; omega
      have i1 : (0 : Int) ≤ (i : Int) ∧ (i : Int) < (l.length : Int) := by omega
      have i2 : (0 : Int) ≤ (m : Int) ∧ (m : Int) < (l.length : Int) := by omega
      have i3 : 0 < i := by omega
      obtain ⟨b, off, rfl, c0, c1, c2, c3, c4, c5⟩ := (PassesAt.later HV.out hBr).get (getD_some noPass (show i < l.length by omega))
      obtain ⟨b', off', e2, d0, d1, d2, d3, d4, d5⟩ := (PassesAt.later HV.out hBr).get (getD_some noPass (show m < l.length by omega))
      cases e2
      have HN := Lib.hid (fun h => sortB_no (show m + 1 < l.length by omega) h)
      rw [← hi] at HN
      have HI := Lib.hid hi
      clear hi e1 hk2
      have lb : b < wr.heap.size := World.block_lt_of_cell? _ _ c0
      have HC := Lib.hid (fun W (hW : Below wr.heap.size wr W) => show W.cell? ⟨b, off + i * 6, none⟩ = some (.int .i64 (l.getD i noPass).sat) ∧ W.cell? ⟨b, off + i * 6 + 1, none⟩ = some (.int .i64 (l.getD i noPass).stn) ∧ W.cell? ⟨b, off + i * 6 + 2, none⟩ = some (.int .i64 (l.getD i noPass).sf) ∧ W.cell? ⟨b, off + i * 6 + 3, none⟩ = some (.int .i64 (l.getD i noPass).su) ∧ W.cell? ⟨b, off + i * 6 + 4, none⟩ = some (.int .i64 (l.getD i noPass).cf) ∧ W.cell? ⟨b, off + i * 6 + 5, none⟩ = some (.int .i64 (l.getD i noPass).cu) ∧ W.cell? ⟨b, off + m * 6, none⟩ = some (.int .i64 (l.getD m noPass).sat) ∧ W.cell? ⟨b, off + m * 6 + 1, none⟩ = some (.int .i64 (l.getD m noPass).stn) ∧ W.cell? ⟨b, off + m * 6 + 2, none⟩ = some (.int .i64 (l.getD m noPass).sf) ∧ W.cell? ⟨b, off + m * 6 + 3, none⟩ = some (.int .i64 (l.getD m noPass).su) ∧ W.cell? ⟨b, off + m * 6 + 4, none⟩ = some (.int .i64 (l.getD m noPass).cf) ∧ W.cell? ⟨b, off + m * 6 + 5, none⟩ = some (.int .i64 (l.getD m noPass).cu) from ⟨(hW.cell (p := ⟨b, off + i * 6, none⟩) lb).trans c0, (hW.cell (p := ⟨b, off + i * 6 + 1, none⟩) lb).trans c1, (hW.cell (p := ⟨b, off + i * 6 + 2, none⟩) lb).trans c2, (hW.cell (p := ⟨b, off + i * 6 + 3, none⟩) lb).trans c3, (hW.cell (p := ⟨b, off + i * 6 + 4, none⟩) lb).trans c4, (hW.cell (p := ⟨b, off + i * 6 + 5, none⟩) lb).trans c5, (hW.cell (p := ⟨b, off + m * 6, none⟩) lb).trans d0, (hW.cell (p := ⟨b, off + m * 6 + 1, none⟩) lb).trans d1, (hW.cell (p := ⟨b, off + m * 6 + 2, none⟩) lb).trans d2, (hW.cell (p := ⟨b, off + m * 6 + 3, none⟩) lb).trans d3, (hW.cell (p := ⟨b, off + m * 6 + 4, none⟩) lb).trans d4, (hW.cell (p := ⟨b, off + m * 6 + 5, none⟩) lb).trans d5⟩)
      have HX := Lib.hid (compare67 (l.getD i noPass) (l.getD m noPass))
      generalize hx : l.getD i noPass = x at *
      generalize hy : l.getD m noPass = y at *
      have HXE := Lib.hid hx
      have HYE := Lib.hid hy
      clear hx hy
      clear c0 c1 c2 c3 c4 c5 d0 d1 d2 d3 d4 d5 lb
      go_upto_region 4 with (fail)
      go_region_held3 (fun w' => Below wr.heap.size wr w' ∧ w'.cell? ⟨b, off + i * 6, none⟩ = some (.int .i64 x.sat) ∧ w'.cell? ⟨b, off + i * 6 + 1, none⟩ = some (.int .i64 x.stn) ∧ w'.cell? ⟨b, off + i * 6 + 2, none⟩ = some (.int .i64 x.sf) ∧ w'.cell? ⟨b, off + i * 6 + 3, none⟩ = some (.int .i64 x.su) ∧ w'.cell? ⟨b, off + i * 6 + 4, none⟩ = some (.int .i64 x.cf) ∧ w'.cell? ⟨b, off + i * 6 + 5, none⟩ = some (.int .i64 x.cu) ∧ w'.cell? ⟨b, off + m * 6, none⟩ = some (.int .i64 y.sat) ∧ w'.cell? ⟨b, off + m * 6 + 1, none⟩ = some (.int .i64 y.stn) ∧ w'.cell? ⟨b, off + m * 6 + 2, none⟩ = some (.int .i64 y.sf) ∧ w'.cell? ⟨b, off + m * 6 + 3, none⟩ = some (.int .i64 y.su) ∧ w'.cell? ⟨b, off + m * 6 + 4, none⟩ = some (.int .i64 y.cf) ∧ w'.cell? ⟨b, off + m * 6 + 5, none⟩ = some (.int .i64 y.cu))
        (first | exact ⟨(Below.refl _ _).drew, HC.out _ (Below.refl _ _).drew⟩ | (have hh := (‹Below wr.heap.size wr _ ∧ _›).1; have hb := hh.trans (hBq.mono hh.size); exact ⟨hb, HC.out _ hb⟩) | (have hh := (‹Below wr.heap.size wr _ ∧ _›).1; exact ⟨hh.alloc hh.size _, HC.out _ (hh.alloc hh.size _)⟩) | (have hh := (‹Below wr.heap.size wr _ ∧ _›).1; exact ⟨hh, HC.out _ hh⟩))
        ((go_at_call 67; refine (HX.out _).mono ?_; rintro e wq ⟨rfl, hBq⟩))
      have hBw := (‹Below wr.heap.size wr _ ∧ _›).1
      by_cases hc : cmpP x y < 0
      · have HR := Lib.hid (HN.out hc)
        rw [decide_eq_true hc]
        clear hc
        go_wp2
        go_ret
        exact ⟨by rw [HR.out]; rfl, hBr.trans (hBw.mono hBr.size)⟩
      · have HCN := Lib.hid hc
        rw [decide_eq_false hc]
        clear hc
        go_wp2
        go_roundw
        case rel => exact ⟨m + 1, by omega, by congr 1; omega, fun j h1 h2 => by
          by_cases hj : j = m
          · subst hj
            rw [← HI.out, HXE.out, HYE.out]; exact Int.not_lt.1 HCN.out
          · exact HP.out j (by omega) h2, hBr.trans (hBw.mono hBr.size)⟩
        case measure => have := HI.out; simp [intOf]; omega
    · have HR := Lib.hid (sortB_yes (l := l) fun j h2 => HP.out j (by omega) h2)
      have ht : decide ((0 : Int) < (k : Int) - 1) = false := decide_eq_false (by omega)
      go_wp2
      go_ret
      exact ⟨by rw [HR.out]; rfl, hBr⟩
theorem proper_eq (l : List Pass) : L18.properB l = (decide (l.length ≤ 64) && (!(l.any fun p => !isPassB p) && sortB l)) := by
  unfold L18.properB sortB
  congr 2
  rw [Bool.eq_iff_iff]
  simp only [decide_eq_true_eq, Bool.not_eq_true', List.any_eq_false]
  constructor
  · intro h x hx
    obtain ⟨i, hi, rfl⟩ := L18.mem_getD noPass hx
    rw [h i hi]; simp
  · intro h i hi
    have := h _ (L18.getD_mem noPass hi)
    simpa using this
set_option maxRecDepth 100000 in
theorem proper43 (v : Value) (l : List Pass) (w : World) (hv : PassesAt w v l) : Calls Try.prog 43 #[v] w fun e w' => e = .returned (.bool (L18.properB l)) ∧ Below w.heap.size w w' := by
  rw [proper_eq]
  have hx := contains63 v _ l _ w hv (isPass1_ans w l)
  have HS := Lib.hid (fun W (hW : Below w.heap.size w W) => sorted66 v l W (hv.later hW))
  obtain ⟨a, cap, rfl, hle, hcm⟩ := hv.len
  unfold maxLen at hcm
  clear hv
  generalize (l.any fun p => !isPassB p) = y1 at hx ⊢
  generalize sortB l = y2 at HS ⊢
  by_cases h : l.length ≤ 64
  · have d : decide (l.length ≤ 64) = true := decide_eq_true h
    have d2 : decide ((l.length : Int) ≤ 64) = true := decide_eq_true (by omega)
    rw [d]
    clear d
    cases y1 with
    | false =>
      go_enter Try.func43, Try.ntmps43
      go_wp2_with fail
      refine hx.mono ?_
      rintro e w1 ⟨rfl, hB1⟩
      go_wp2_with fail
      refine (HS.out _ hB1).mono ?_
      rintro e w2 ⟨rfl, hB2⟩
      go_wp2
      go_ret
      exact ⟨by simp, hB1.trans (hB2.mono hB1.size)⟩
    | true =>
      go_enter Try.func43, Try.ntmps43
      go_wp2_with fail
      refine hx.mono ?_
      rintro e w1 ⟨rfl, hB1⟩
      go_wp2
      go_ret
      exact ⟨by simp, hB1⟩
  · have d : decide (l.length ≤ 64) = false := decide_eq_false h
    have d2 : decide ((l.length : Int) ≤ 64) = false := decide_eq_false (by omega)
    rw [d]
    clear d
    go_enter Try.func43, Try.ntmps43
    go_wp2
    go_ret
    exact ⟨by simp, Below.refl _ _⟩
end Go.Proofs.Ytmajkagmcdlncaa
