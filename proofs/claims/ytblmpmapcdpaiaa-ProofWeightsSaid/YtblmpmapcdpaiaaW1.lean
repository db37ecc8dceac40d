/- Plain: a leaf whose weights are all multiplied by the same number answers alike; a step behind a proof that does not leave its list plays no part. -/
import Derived.Test.YtblmpmapcdpaiaaF0
namespace Go.Proofs.Ytblmpmapcdpaiaa
open Go.RowKit Lib

def scl (n : Int) (w : WtD) : WtD := ⟨w.row, w.times * n⟩
def sclL (n : Int) (wts : List WtD) : List WtD := wts.map (scl n)
theorem sclL_len (n : Int) (wts : List WtD) : (sclL n wts).length = wts.length := by simp [sclL]
theorem scl_get (n : Int) (wts : List WtD) (i : Nat) : (sclL n wts).getD i wt0 = scl n (wts.getD i wt0) := by
  unfold sclL
  rw [List.getD_eq_getElem?_getD, List.getD_eq_getElem?_getD, List.getElem?_map]
  cases wts[i]? with
  | none => show wt0 = scl n wt0; unfold scl wt0; simp
  | some y => rfl
theorem rowW_scl (rows : List RowD) (n : Int) (w : WtD) : rowW rows (scl n w) = rowW rows w := rfl
theorem mK_scl (rows : List RowD) (n : Int) (wts : List WtD) : ∀ m, mK rows (sclL n wts) m = mK rows wts m * n
  | 0 => by simp [mK]
  | m + 1 => by
    simp only [mK]
    rw [mK_scl rows n wts m, scl_get, rowW_scl, Int.add_mul]
    congr 1
    show (wts.getD m wt0).times * n * _ = _
    rw [Int.mul_assoc, Int.mul_comm n, ← Int.mul_assoc]
theorem sK_scl (rows : List RowD) (n : Int) (wts : List WtD) (k : Nat) : ∀ m, sK rows (sclL n wts) m k = sK rows wts m k * n
  | 0 => by simp [sK]
  | m + 1 => by
    simp only [sK]
    rw [sK_scl rows n wts k m, scl_get, rowW_scl, Int.add_mul]
    congr 1
    show (wts.getD m wt0).times * n * _ = _
    rw [Int.mul_assoc, Int.mul_comm n, ← Int.mul_assoc]
theorem term_scl {n : Int} (hn : 0 < n) (x s : Int) : term x (s * n) = term x s * n := by
  unfold term
  have h : (s * n < 0) ↔ (s < 0) := by
    constructor
    · intro h
      refine Classical.byContradiction fun hc => ?_
      have := Int.mul_nonneg (show 0 ≤ s by omega) (Int.le_of_lt hn)
      omega
    · intro h
      exact Int.mul_neg_of_neg_of_pos h hn
  by_cases hc : x = 1 ∨ (x < 0 ∧ s < 0)
  · rw [if_pos hc, if_pos (hc.imp_right fun ⟨a, b⟩ => ⟨a, h.2 b⟩)]
  · rw [if_neg hc, if_neg (fun h2 => hc (h2.imp_right fun ⟨a, b⟩ => ⟨a, h.1 b⟩)), Int.zero_mul]
theorem lK_scl {n : Int} (hn : 0 < n) (dc : Dc) (s t : Nat → Int) (h : ∀ k, t k = s k * n) : ∀ m, lK dc t m = lK dc s m * n
  | 0 => by simp [lK]
  | m + 1 => by
    simp only [lK]
    rw [lK_scl hn dc s t h m, h m, term_scl hn, Int.add_mul]
theorem leafV_scl {rows : List RowD} {v : Nat} {s : StepD} {dc : Dc} {n : Int} (hn : 1 ≤ n) (h : ∀ w ∈ s.wts, 1 ≤ w.times ∧ w.times * n ≤ 1000) : leafV rows v ⟨s.var, s.no, s.yes, sclL n s.wts⟩ dc = leafV rows v s dc := by
  have h1 : headL ⟨s.var, s.no, s.yes, sclL n s.wts⟩ = headL s := by unfold headL; simp only [sclL_len]
  have h2 : okW rows.length (sclL n s.wts) = okW rows.length s.wts := by
    unfold okW
    rw [sclL_len, Bool.eq_iff_iff, List.all_eq_true, List.all_eq_true]
    refine forall_congr' fun i => ?_
    refine forall_congr' fun hi => ?_
    have hi' : i < s.wts.length := by simpa using hi
    have hm : s.wts.getD i wt0 ∈ s.wts := List.mem_of_getElem? (getD_some wt0 hi')
    obtain ⟨t1, t2⟩ := h _ hm
    have hlast : lastK (sclL n s.wts) i = lastK s.wts i := by
      cases i with
      | zero => rfl
      | succ i => simp only [lastK]; rw [scl_get]; rfl
    unfold wtB
    rw [scl_get, hlast]
    have e1 : inB (scl n (s.wts.getD i wt0)).times 1 1000 = true := by
      unfold inB scl
      simp only [Bool.and_eq_true, decide_eq_true_eq]
      have := Int.mul_le_mul t1 hn (by decide) (by omega)
      omega
    have e2 : inB (s.wts.getD i wt0).times 1 1000 = true := by
      unfold inB
      simp only [Bool.and_eq_true, decide_eq_true_eq]
      have := Int.mul_le_mul_of_nonneg_left hn (show 0 ≤ (s.wts.getD i wt0).times by omega)
      omega
    rw [e1, e2]
    rfl
  have h3 : overB rows v ⟨s.var, s.no, s.yes, sclL n s.wts⟩ dc = overB rows v s dc := by
    unfold overB
    simp only [sclL_len]
    rw [mK_scl, lK_scl (show 0 < n by omega) dc (sK rows s.wts s.wts.length) _ (fun k => sK_scl rows n s.wts k _)]
    refine decide_eq_decide.2 ?_
    constructor
    · intro hlt; exact Int.lt_of_mul_lt_mul_right hlt (by omega)
    · intro hlt; exact Int.mul_lt_mul_of_pos_right hlt (by omega)
  unfold leafV
  rw [h1, h3]
  simp only
  rw [h2]
/-- The steps with those weights multiplied. -/
def greatD (l : List StepD) (k : Nat) (n : Int) : List StepD := l.set k ⟨(l.getD k st0).var, (l.getD k st0).no, (l.getD k st0).yes, sclL n (l.getD k st0).wts⟩
theorem great_len (l : List StepD) (k : Nat) (n : Int) : (greatD l k n).length = l.length := by unfold greatD; rw [List.length_set]
theorem great_get {l : List StepD} {k : Nat} {n : Int} (i : Nat) : (greatD l k n)[i]? = if k = i ∧ i < l.length then some ⟨(l.getD k st0).var, (l.getD k st0).no, (l.getD k st0).yes, sclL n (l.getD k st0).wts⟩ else l[i]? := by
  unfold greatD
  rw [List.getElem?_set]
  by_cases e : k = i
  · subst e
    by_cases h : k < l.length
    · rw [if_pos rfl, if_pos h, if_pos ⟨rfl, h⟩]
    · rw [if_pos rfl, if_neg h, if_neg (fun hc => h hc.2)]
      exact (List.getElem?_eq_none (by omega)).symm
  · rw [if_neg e, if_neg (fun hc => e hc.1)]
theorem wrongV_great {rows : List RowD} {l : List StepD} {v k : Nat} {n : Int} (hn : 1 ≤ n) (h : ∀ w ∈ (l.getD k st0).wts, 1 ≤ w.times ∧ w.times * n ≤ 1000) : ∀ (f at_ : Nat) (dc : Dc), wrongV rows (greatD l k n) v f at_ dc = wrongV rows l v f at_ dc := by
  intro f
  induction f with
  | zero => intro at_ dc; rfl
  | succ f ih =>
    intro at_ dc
    by_cases hc : k = at_ ∧ at_ < l.length
    · obtain ⟨rfl, hk⟩ := hc
      have h1 : (greatD l k n)[k]? = some ⟨(l.getD k st0).var, (l.getD k st0).no, (l.getD k st0).yes, sclL n (l.getD k st0).wts⟩ := by rw [great_get, if_pos ⟨rfl, hk⟩]
      have h2 : l[k]? = some (l.getD k st0) := getD_some st0 hk
      generalize l.getD k st0 = s at h h1 h2
      by_cases hv : s.var = -1
      · rw [wrongV_leaf h1 hv, wrongV_leaf h2 hv, leafV_scl hn h]
      · have e1 : (caseA v ⟨s.var, s.no, s.yes, sclL n s.wts⟩ dc && caseC (greatD l k n).length k ⟨s.var, s.no, s.yes, sclL n s.wts⟩) = (caseA v s dc && caseC l.length k s) := by
          unfold caseA caseC
          rw [great_len, sclL_len]
        cases hb : (caseA v s dc && caseC l.length k s) with
        | false => rw [wrongV_bad h1 hv (e1.trans hb), wrongV_bad h2 hv hb]
        | true =>
          rw [wrongV_case h1 hv (e1.trans hb), wrongV_case h2 hv hb]
          simp only [ih]
    · have h1 : (greatD l k n)[at_]? = l[at_]? := by rw [great_get, if_neg hc]
      cases h2 : l[at_]? with
      | none => unfold wrongV; rw [h1, h2]
      | some s =>
        rw [h2] at h1
        by_cases hv : s.var = -1
        · rw [wrongV_leaf h1 hv, wrongV_leaf h2 hv]
        · have e1 : (caseA v s dc && caseC (greatD l k n).length at_ s) = (caseA v s dc && caseC l.length at_ s) := by rw [great_len]
          cases hb : (caseA v s dc && caseC l.length at_ s) with
          | false => rw [wrongV_bad h1 hv (e1.trans hb), wrongV_bad h2 hv hb]
          | true =>
            rw [wrongV_case h1 hv (e1.trans hb), wrongV_case h2 hv hb]
            simp only [ih]
theorem checkV_great {p : ProgD} {rows : List RowD} {l : List StepD} {k : Nat} {n : Int} (hn : 1 ≤ n) (h : ∀ w ∈ (l.getD k st0).wts, 1 ≤ w.times ∧ w.times * n ≤ 1000) : checkV p rows (greatD l k n) = checkV p rows l := by
  unfold checkV
  rw [great_len, wrongV_great hn h]
/-- More fuel than there are steps changes nothing. -/
theorem wrongV_fuel {rows : List RowD} {l : List StepD} {v : Nat} : ∀ (f at_ : Nat) (dc : Dc), at_ < l.length → l.length ≤ f + at_ → wrongV rows l v (f + 1) at_ dc = wrongV rows l v f at_ dc := by
  intro f
  induction f with
  | zero => intro at_ dc h1 h2; omega
  | succ f ih =>
    intro at_ dc h1 h2
    have hs := getD_some st0 h1
    generalize l.getD at_ st0 = s at hs
    by_cases hv : s.var = -1
    · rw [wrongV_leaf hs hv, wrongV_leaf hs hv]
    · cases hb : (caseA v s dc && caseC l.length at_ s) with
      | false => rw [wrongV_bad hs hv hb, wrongV_bad hs hv hb]
      | true =>
        rw [wrongV_case hs hv hb, wrongV_case hs hv hb]
        obtain ⟨c1, c2, c3, c4⟩ : (at_ : Int) + 1 ≤ s.no ∧ s.no ≤ (l.length : Int) - 1 ∧ (at_ : Int) + 1 ≤ s.yes ∧ s.yes ≤ (l.length : Int) - 1 := by
          rw [Bool.and_eq_true] at hb
          have := hb.2
          unfold caseC inB at this
          simp only [Bool.and_eq_true, decide_eq_true_eq] at this
          omega
        rw [ih s.no.toNat _ (by omega) (by omega), ih s.yes.toNat _ (by omega) (by omega)]
/-- No step leaves the list. -/
def wholeB (l : List StepD) (k : Nat) : Bool := (l.take k).all fun s => decide (s.no < (l.length : Int)) && decide (s.yes < (l.length : Int))
theorem wholeB_succ {l : List StepD} {k : Nat} {s : StepD} (h : l[k]? = some s) : wholeB l (k + 1) = (wholeB l k && (decide (s.no < (l.length : Int)) && decide (s.yes < (l.length : Int)))) := by
  obtain ⟨hk, rfl⟩ := List.getElem?_eq_some_iff.1 h
  unfold wholeB
  rw [List.take_succ_eq_append_getElem hk, List.all_append]
  simp
theorem wrongV_longer {rows : List RowD} {l : List StepD} {e : StepD} {v : Nat} (hw : wholeB l l.length = true) : ∀ (f at_ : Nat) (dc : Dc), at_ < l.length → wrongV rows (l ++ [e]) v f at_ dc = wrongV rows l v f at_ dc := by
  intro f
  induction f with
  | zero => intro at_ dc _; rfl
  | succ f ih =>
    intro at_ dc h1
    have hs := getD_some st0 h1
    have hm := List.mem_of_getElem? hs
    generalize l.getD at_ st0 = s at hs hm
    have hs2 : (l ++ [e])[at_]? = some s := by rw [List.getElem?_append_left h1]; exact hs
    obtain ⟨w1, w2⟩ : s.no < (l.length : Int) ∧ s.yes < (l.length : Int) := by
      unfold wholeB at hw
      rw [List.take_length] at hw
      have := List.all_eq_true.1 hw s hm
      simpa using this
    by_cases hv : s.var = -1
    · rw [wrongV_leaf hs2 hv, wrongV_leaf hs hv]
    · have e1 : (caseA v s dc && caseC (l ++ [e]).length at_ s) = (caseA v s dc && caseC l.length at_ s) := by
        congr 1
        unfold caseC inB
        rw [List.length_append, List.length_singleton]
        have a1 : decide (s.no ≤ ((l.length + 1 : Nat) : Int) - 1) = true := decide_eq_true (by omega)
        have a2 : decide (s.no ≤ (l.length : Int) - 1) = true := decide_eq_true (by omega)
        have a3 : decide (s.yes ≤ ((l.length + 1 : Nat) : Int) - 1) = true := decide_eq_true (by omega)
        have a4 : decide (s.yes ≤ (l.length : Int) - 1) = true := decide_eq_true (by omega)
        rw [a1, a2, a3, a4]
      cases hb : (caseA v s dc && caseC l.length at_ s) with
      | false => rw [wrongV_bad hs2 hv (e1.trans hb), wrongV_bad hs hv hb]
      | true =>
        rw [wrongV_case hs2 hv (e1.trans hb), wrongV_case hs hv hb]
        obtain ⟨c1, c2, c3, c4⟩ : (at_ : Int) + 1 ≤ s.no ∧ s.no ≤ (l.length : Int) - 1 ∧ (at_ : Int) + 1 ≤ s.yes ∧ s.yes ≤ (l.length : Int) - 1 := by
          rw [Bool.and_eq_true] at hb
          have := hb.2
          unfold caseC inB at this
          simp only [Bool.and_eq_true, decide_eq_true_eq] at this
          omega
        rw [ih s.no.toNat _ (by omega), ih s.yes.toNat _ (by omega)]
theorem checkV_longer {p : ProgD} {rows : List RowD} {l : List StepD} {e : StepD} (hw : wholeB l l.length = true) (h0 : 0 < l.length) (hl : l.length ≤ 8191) : checkV p rows (l ++ [e]) = checkV p rows l := by
  unfold checkV
  have e1 : (l ++ [e]).length = l.length + 1 := by simp
  by_cases hv : validB p = true
  · rw [if_pos (show validB p = true ∧ (l ++ [e]).length ≤ 8192 from ⟨hv, by omega⟩), if_pos (show validB p = true ∧ l.length ≤ 8192 from ⟨hv, by omega⟩), if_neg (show ¬ (l ++ [e]).length = 0 by omega), if_neg (show ¬ l.length = 0 by omega), e1, wrongV_longer hw _ _ _ h0, wrongV_fuel _ _ _ h0 (by omega)]
  · rw [if_neg (fun h => hv h.1), if_neg (fun h => hv h.1)]
theorem wrong_great {p : ProgD} {l : List StepD} {k : Nat} {n : Int} (hn : 1 ≤ n) (h : ∀ w ∈ (l.getD k st0).wts, 1 ≤ w.times ∧ w.times * n ≤ 1000) : wrongD p (greatD l k n) = wrongD p l := checkV_great hn h
theorem bounds_great {p : ProgD} {l : List StepD} {k : Nat} {n g : Int} (hn : 1 ≤ n) (h : ∀ w ∈ (l.getD k st0).wts, 1 ≤ w.times ∧ w.times * n ≤ 1000) : boundsV p (greatD l k n) g = boundsV p l g := by unfold boundsV; rw [checkV_great hn h]
theorem wrong_longer {p : ProgD} {l : List StepD} {e : StepD} (hw : wholeB l l.length = true) (h0 : 0 < l.length) (hl : l.length ≤ 8191) : wrongD p (l ++ [e]) = wrongD p l := checkV_longer hw h0 hl
theorem bounds_longer {p : ProgD} {l : List StepD} {e : StepD} {g : Int} (hw : wholeB l l.length = true) (h0 : 0 < l.length) (hl : l.length ≤ 8191) : boundsV p (l ++ [e]) g = boundsV p l g := by unfold boundsV; rw [checkV_longer hw h0 hl]
/-- Weights of moderate size. -/
def TimesB (l : List StepD) : Prop := ∀ s ∈ l, ∀ w ∈ s.wts, -1 ≤ w.times ∧ w.times ≤ 1001
theorem growS_times (rows : List RowD) : ∀ (f d set k : Nat), TimesB (growS rows f d set k) := by
  intro f
  induction f with
  | zero =>
    intro d set k s hs w hw
    unfold growS at hs
    split at hs
    · rw [List.mem_singleton] at hs; subst hs; rw [List.mem_singleton] at hw; subst hw; exact ⟨show (-1 : Int) ≤ 1 by decide, show (1 : Int) ≤ 1001 by decide⟩
    · cases hs
  | succ f ih =>
    intro d set k s hs w hw
    unfold growS at hs
    split at hs
    · rw [List.mem_singleton] at hs; subst hs; rw [List.mem_singleton] at hw; subst hw; exact ⟨show (-1 : Int) ≤ 1 by decide, show (1 : Int) ≤ 1001 by decide⟩
    · rcases List.mem_cons.1 hs with rfl | hs
      · cases hw
      · rcases List.mem_append.1 hs with hs | hs
        · exact ih _ _ _ s hs w hw
        · exact ih _ _ _ s hs w hw
theorem solve_times {p : ProgD} (hv : validB p = true) : TimesB (solveV p).proof := by
  unfold solveV
  rw [if_pos hv]
  split <;> exact growS_times _ _ _ _ _
theorem bentS_times {s : StepD} (h : ∀ w ∈ s.wts, -1 ≤ w.times ∧ w.times ≤ 1001) (n : Nat) (x1 x2 x3 : Int) : ∀ w ∈ (bentS s n x1 x2 x3).wts, -1 ≤ w.times ∧ w.times ≤ 1001 := by
  have h3 := pickI_bd x2 (n := 1003) (by decide)
  have h5 := pickI_bd x3 (n := 5) (by decide)
  have hg : -1 ≤ (s.wts.getD 0 wt0).times ∧ (s.wts.getD 0 wt0).times ≤ 1001 := by
    by_cases hl : 0 < s.wts.length
    · exact h _ (List.mem_of_getElem? (getD_some wt0 hl))
    · rw [List.eq_nil_of_length_eq_zero (show s.wts.length = 0 by omega)]; exact ⟨show (-1 : Int) ≤ 0 by decide, show (0 : Int) ≤ 1001 by decide⟩
  unfold bentS
  intro w hw
  split at hw
  · exact h w hw
  split at hw
  · exact h w hw
  split at hw
  · exact h w hw
  split at hw
  · rcases List.mem_or_eq_of_mem_set hw with h1 | rfl
    · exact h w h1
    · exact hg
  split at hw
  · rcases List.mem_or_eq_of_mem_set hw with h1 | rfl
    · exact h w h1
    · simp only; omega
  split at hw
  · rcases List.mem_append.1 hw with h1 | h1
    · exact h w h1
    · rw [List.mem_singleton] at h1; subst h1; simp only; omega
  split at hw
  · exact h w hw
  · exact h w hw
theorem TimesB.bent {l : List StepD} (h : TimesB l) (x0 x1 x2 x3 : Int) : TimesB (bentD l x0 x1 x2 x3) := by
  unfold bentD
  split
  · intro s hs; cases hs
  · rename_i h0
    split
    · exact fun s hs => h s (List.mem_of_mem_take hs)
    · intro s hs
      rcases List.mem_or_eq_of_mem_set hs with h1 | rfl
      · exact h s h1
      · have hb := pickI_bd x0 (n := (l.length : Int)) (by omega)
        refine bentS_times ?_ _ _ _ _
        exact h _ (List.mem_of_getElem? (getD_some st0 (show (pickI x0 (l.length : Int)).toNat < l.length by omega)))
theorem bentD_pos {l : List StepD} (h : 0 < l.length) (x0 x1 x2 x3 : Int) : 0 < (bentD l x0 x1 x2 x3).length := by
  unfold bentD
  rw [if_neg (by omega)]
  split
  · rw [List.length_take]
    have := pickI_bd x2 (n := (l.length : Int)) (by omega)
    omega
  · rw [List.length_set]; exact h
theorem solve_pos {p : ProgD} (hv : validB p = true) : 0 < (solveV p).proof.length := by
  have := (proofS_ok hv).1
  unfold solveV
  rw [if_pos hv]
  split <;> exact this
end Go.Proofs.Ytblmpmapcdpaiaa
