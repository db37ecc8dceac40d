/- Checking a proof, plainly: leaves, cases, the first step that is wrong, the rows that are used. -/
import Derived.Test.YtblmpmapcdpaiaaK2
namespace Go.Proofs.Ytblmpmapcdpaiaa

def wt0 : WtD := ⟨0, 0⟩
def rowE : RowD := ⟨0, 0, 0, 0, [], 0⟩
/-- What is decided: 1 chosen, 0 not chosen, -1 nothing. -/
abbrev Dc := Nat → Int
def upd (dc : Dc) (v : Nat) (x : Int) : Dc := fun k => if k = v then x else dc k
/-- How package proof keeps it: 1, -1, 0. -/
def encP (x : Int) : Int := if x = 1 then 1 else if x = 0 then -1 else 0
def dcP (dc : Dc) : List Int := (List.range 12).map fun k => encP (dc k)
def dcR (n : Nat) (dc : Dc) : List Int := (List.range n).map dc
theorem dcP_len (dc : Dc) : (dcP dc).length = 12 := by simp [dcP]
theorem dcR_len (n : Nat) (dc : Dc) : (dcR n dc).length = n := by simp [dcR]
theorem dcP_get {dc : Dc} {k : Nat} (h : k < 12) : (dcP dc)[k]? = some (encP (dc k)) := by simp [dcP, h]
theorem dcR_get {n : Nat} {dc : Dc} {k : Nat} (h : k < n) : (dcR n dc)[k]? = some (dc k) := by simp [dcR, h]
theorem dcP_set (dc : Dc) (v : Nat) (x : Int) : (dcP dc).set v (encP x) = dcP (upd dc v x) := by
  apply List.ext_getElem?
  intro i
  rw [List.getElem?_set]
  by_cases hi : i < 12
  · rw [dcP_get (dc := upd dc v x) hi, dcP_len]
    by_cases e : v = i
    · subst e; rw [if_pos rfl, if_pos hi]; simp only [upd, if_pos]
    · have e2 : ¬ i = v := fun h => e h.symm
      rw [if_neg e, dcP_get hi]; simp only [upd, if_neg e2]
  · rw [List.getElem?_eq_none (l := dcP (upd dc v x)) (by rw [dcP_len]; omega)]
    split
    · rw [dcP_len, if_neg (by omega)]
    · exact List.getElem?_eq_none (by rw [dcP_len]; omega)
theorem dcR_set (n : Nat) (dc : Dc) (v : Nat) (x : Int) : (dcR n dc).set v x = dcR n (upd dc v x) := by
  apply List.ext_getElem?
  intro i
  rw [List.getElem?_set]
  by_cases hi : i < n
  · rw [dcR_get (dc := upd dc v x) hi, dcR_len]
    by_cases e : v = i
    · subst e; rw [if_pos rfl, if_pos hi]; simp only [upd, if_pos]
    · have e2 : ¬ i = v := fun h => e h.symm
      rw [if_neg e, dcR_get hi]; simp only [upd, if_neg e2]
  · rw [List.getElem?_eq_none (l := dcR n (upd dc v x)) (by rw [dcR_len]; omega)]
    split
    · rw [dcR_len, if_neg (by omega)]
    · exact List.getElem?_eq_none (by rw [dcR_len]; omega)
/-- Decisions are 1, 0 or -1; from n on there are none. -/
def DcOK (n : Nat) (dc : Dc) : Prop := ∀ k, (dc k = 1 ∨ dc k = 0 ∨ dc k = -1) ∧ (n ≤ k → dc k = -1)
theorem DcOK.upd {n v : Nat} {dc : Dc} {x : Int} (h : DcOK n dc) (hv : v < n) (hx : x = 1 ∨ x = 0) : DcOK n (upd dc v x) := by
  intro k
  unfold Go.Proofs.Ytblmpmapcdpaiaa.upd
  split
  · subst_vars; exact ⟨by rcases hx with h | h <;> simp [h], fun hk => by omega⟩
  · exact h k
theorem encP_eq {n : Nat} {dc : Dc} (h : DcOK n dc) (k : Nat) : (dc k = 1 ∧ encP (dc k) = 1) ∨ (dc k = 0 ∧ encP (dc k) = -1) ∨ (dc k = -1 ∧ encP (dc k) = 0) := by
  rcases (h k).1 with e | e | e <;> rw [e] <;> simp [encP]
/-- Rows that a proof may speak of. -/
def RowsOK (n : Nat) (rows : List RowD) : Prop := n ≤ 12 ∧ rows.length ≤ 301 ∧ ∀ r ∈ rows, r.coef.length = n ∧ coefOK r.coef = true ∧ -10000000000000 ≤ r.most ∧ r.most ≤ 10000000000000
def rowW (rows : List RowD) (w : WtD) : RowD := rows.getD w.row.toNat rowE
/-- The sum of the first m weighted rows at thing k. -/
def sK (rows : List RowD) (wts : List WtD) : Nat → Nat → Int
  | 0, _ => 0
  | m + 1, k => sK rows wts m k + (wts.getD m wt0).times * (rowW rows (wts.getD m wt0)).coef.getD k 0
def mK (rows : List RowD) (wts : List WtD) : Nat → Int
  | 0 => 0
  | m + 1 => mK rows wts m + (wts.getD m wt0).times * (rowW rows (wts.getD m wt0)).most
def term (x s : Int) : Int := if x = 1 ∨ (x < 0 ∧ s < 0) then s else 0
def lK (dc : Dc) (s : Nat → Int) : Nat → Int
  | 0 => 0
  | m + 1 => lK dc s m + term (dc m) (s m)
def lastK (wts : List WtD) : Nat → Int
  | 0 => -1
  | m + 1 => (wts.getD m wt0).row
def wtB (R : Nat) (wts : List WtD) (i : Nat) : Bool := inB (wts.getD i wt0).row (lastK wts i + 1) ((R : Int) - 1) && inB (wts.getD i wt0).times 1 1000
def okW (R : Nat) (wts : List WtD) : Bool := (List.range wts.length).all (wtB R wts)
def headL (s : StepD) : Bool := (s.no == 0) && ((s.yes == 0) && inB s.wts.length 1 8)
def overB (rows : List RowD) (n : Nat) (s : StepD) (dc : Dc) : Bool := decide (mK rows s.wts s.wts.length < lK dc (sK rows s.wts s.wts.length) n)
def leafV (rows : List RowD) (n : Nat) (s : StepD) (dc : Dc) : Bool := headL s && (okW rows.length s.wts && overB rows n s dc)
def caseA (n : Nat) (s : StepD) (dc : Dc) : Bool := inB s.var 0 ((n : Int) - 1) && ((dc s.var.toNat == -1) && ((s.wts.length : Int) == 0))
def caseC (L at_ : Nat) (s : StepD) : Bool := inB s.no ((at_ : Int) + 1) ((L : Int) - 1) && inB s.yes ((at_ : Int) + 1) ((L : Int) - 1)
/-- The first step that is wrong, from one on; -1 if there is none. -/
def wrongV (rows : List RowD) (l : List StepD) (n : Nat) : Nat → Nat → Dc → Int
  | 0, at_, _ => at_
  | f + 1, at_, dc =>
    match l[at_]? with
    | none => at_
    | some s =>
      if s.var = -1 then (if leafV rows n s dc then -1 else at_)
      else if caseA n s dc && caseC l.length at_ s then
        (if wrongV rows l n f s.no.toNat (upd dc s.var.toNat 0) = -1 then wrongV rows l n f s.yes.toNat (upd dc s.var.toNat 1) else wrongV rows l n f s.no.toNat (upd dc s.var.toNat 0))
      else at_
def markW (b : Nat → Bool) (wts : List WtD) : Nat → (Nat → Bool)
  | 0 => b
  | m + 1 => mark (markW b wts m) (wts.getD m wt0).row.toNat
def usedV (l : List StepD) : Nat → Nat → (Nat → Bool) → (Nat → Bool)
  | 0, _, b => b
  | f + 1, at_, b =>
    match l[at_]? with
    | none => b
    | some s => if s.var = -1 then markW b s.wts s.wts.length else usedV l f s.yes.toNat (usedV l f s.no.toNat b)
theorem wrongV_ge (rows : List RowD) (l : List StepD) (n : Nat) : ∀ (f at_ : Nat) (dc : Dc), -1 ≤ wrongV rows l n f at_ dc := by
  intro f
  induction f with
  | zero => intro at_ dc; simp only [wrongV]; omega
  | succ f ih =>
    intro at_ dc
    unfold wrongV
    split
    · omega
    · split
      · split <;> omega
      · split
        · split
          · exact ih _ _
          · exact ih _ _
        · omega
theorem okW_at {R : Nat} {wts : List WtD} (h : okW R wts = true) {i : Nat} (hi : i < wts.length) : wtB R wts i = true := by
  unfold okW at h
  rw [List.all_eq_true] at h
  exact h i (by simpa using hi)
theorem okW_not {R : Nat} {wts : List WtD} {i : Nat} (hi : i < wts.length) (h : wtB R wts i = false) : okW R wts = false := by
  cases hq : okW R wts with
  | false => rfl
  | true => rw [okW_at hq hi] at h; cases h
theorem wtB_true {R : Nat} {wts : List WtD} {i : Nat} (h : wtB R wts i = true) : lastK wts i + 1 ≤ (wts.getD i wt0).row ∧ (wts.getD i wt0).row ≤ (R : Int) - 1 ∧ 1 ≤ (wts.getD i wt0).times ∧ (wts.getD i wt0).times ≤ 1000 := by
  unfold wtB inB at h
  simp only [Bool.and_eq_true, decide_eq_true_eq] at h
  exact ⟨h.1.1, h.1.2, h.2.1, h.2.2⟩
theorem lastK_ge {R : Nat} {wts : List WtD} : ∀ i, (∀ j, j < i → wtB R wts j = true) → -1 ≤ lastK wts i := by
  intro i
  induction i with
  | zero => intro _; simp [lastK]
  | succ i ih =>
    intro h
    have h1 := ih (fun j hj => h j (by omega))
    have h2 := (wtB_true (h i (by omega))).1
    show -1 ≤ (wts.getD i wt0).row
    omega
theorem lastK_le {R : Nat} {wts : List WtD} (hR : 0 ≤ (R : Int)) : ∀ i, (∀ j, j < i → wtB R wts j = true) → lastK wts i ≤ R := by
  intro i
  cases i with
  | zero => intro _; simp [lastK]
  | succ i => intro h; have := (wtB_true (h i (by omega))).2.1; show (wts.getD i wt0).row ≤ R; omega
/-- A weight that is formed names a row. -/
theorem rowW_ok {n : Nat} {rows : List RowD} {wts : List WtD} (hr : RowsOK n rows) {i : Nat} (hp : ∀ j, j ≤ i → wtB rows.length wts j = true) :
    ∃ j : Nat, (wts.getD i wt0).row = j ∧ j < rows.length ∧ rows[j]? = some (rowW rows (wts.getD i wt0)) ∧ (rowW rows (wts.getD i wt0)).coef.length = n ∧ coefOK (rowW rows (wts.getD i wt0)).coef = true ∧ -10000000000000 ≤ (rowW rows (wts.getD i wt0)).most ∧ (rowW rows (wts.getD i wt0)).most ≤ 10000000000000 := by
  have h1 := lastK_ge i (fun j hj => hp j (by omega))
  obtain ⟨h2, h3, -⟩ := wtB_true (hp i (Nat.le_refl _))
  obtain ⟨j, hj⟩ := Int.eq_ofNat_of_zero_le (show 0 ≤ (wts.getD i wt0).row by omega)
  have hjl : j < rows.length := by omega
  have hg : rows[j]? = some (rowW rows (wts.getD i wt0)) := by
    unfold rowW
    rw [hj, Int.toNat_natCast]
    exact getD_some rowE hjl
  exact ⟨j, hj, hjl, hg, hr.2.2 _ (List.mem_of_getElem? hg)⟩
theorem mul_bdC {a b M N : Int} (ha : -M ≤ a ∧ a ≤ M) (hb : -N ≤ b ∧ b ≤ N) (_hM : 0 ≤ M) (_hN : 0 ≤ N) : -(M * N) ≤ a * b ∧ a * b ≤ M * N := by
  have h1 : 0 ≤ (M - a) * (N + b) := Int.mul_nonneg (by omega) (by omega)
  have h2 : 0 ≤ (M + a) * (N - b) := Int.mul_nonneg (by omega) (by omega)
  have h3 : 0 ≤ (M - a) * (N - b) := Int.mul_nonneg (by omega) (by omega)
  have h4 : 0 ≤ (M + a) * (N + b) := Int.mul_nonneg (by omega) (by omega)
  simp only [Int.sub_mul, Int.add_mul, Int.mul_add, Int.mul_sub] at h1 h2 h3 h4
  constructor <;> omega
theorem sK_bd {n : Nat} {rows : List RowD} {wts : List WtD} (hr : RowsOK n rows) : ∀ m, (∀ j, j < m → wtB rows.length wts j = true) → ∀ k, -(1000000000000 * (m : Int)) ≤ sK rows wts m k ∧ sK rows wts m k ≤ 1000000000000 * m := by
  intro m
  induction m with
  | zero => intro _ k; simp [sK]
  | succ m ih =>
    intro hp k
    obtain ⟨h1, h2⟩ := ih (fun j hj => hp j (by omega)) k
    obtain ⟨j, -, -, -, -, hc, -⟩ := rowW_ok hr (i := m) (fun j hj => hp j (by omega))
    obtain ⟨-, -, ht1, ht2⟩ := wtB_true (hp m (by omega))
    have hb := mul_bdC (a := (wts.getD m wt0).times) (M := 1000) ⟨by omega, by omega⟩ (coefOK_get hc k) (by omega) (by omega)
    simp only [sK]
    generalize (wts.getD m wt0).times * (rowW rows (wts.getD m wt0)).coef.getD k 0 = z at hb ⊢
    omega
theorem mK_bd {n : Nat} {rows : List RowD} {wts : List WtD} (hr : RowsOK n rows) : ∀ m, (∀ j, j < m → wtB rows.length wts j = true) → -(10000000000000000 * (m : Int)) ≤ mK rows wts m ∧ mK rows wts m ≤ 10000000000000000 * m := by
  intro m
  induction m with
  | zero => intro _; simp [mK]
  | succ m ih =>
    intro hp
    obtain ⟨h1, h2⟩ := ih (fun j hj => hp j (by omega))
    obtain ⟨j, -, -, -, -, -, h3, h4⟩ := rowW_ok hr (i := m) (fun j hj => hp j (by omega))
    obtain ⟨-, -, ht1, ht2⟩ := wtB_true (hp m (by omega))
    have hb := mul_bdC (a := (wts.getD m wt0).times) (M := 1000) ⟨by omega, by omega⟩ ⟨h3, h4⟩ (by omega) (by omega)
    simp only [mK]
    generalize (wts.getD m wt0).times * (rowW rows (wts.getD m wt0)).most = z at hb ⊢
    omega
theorem lK_bd {dc : Dc} {s : Nat → Int} {M : Int} (hM : 0 ≤ M) (hs : ∀ k, -M ≤ s k ∧ s k ≤ M) : ∀ m : Nat, -(M * m) ≤ lK dc s m ∧ lK dc s m ≤ M * m := by
  intro m
  induction m with
  | zero => simp [lK]
  | succ m ih =>
    have := hs m
    simp only [lK, term]
    have e : M * ((m + 1 : Nat) : Int) = M * m + M := by rw [Int.natCast_add, Int.mul_add]; simp
    rw [e]
    split <;> omega
/-- Things that there are not add nothing. -/
theorem sK_zero {n : Nat} {rows : List RowD} {wts : List WtD} (hr : RowsOK n rows) : ∀ m, (∀ j, j < m → wtB rows.length wts j = true) → ∀ k, n ≤ k → sK rows wts m k = 0 := by
  intro m
  induction m with
  | zero => intro _ k _; rfl
  | succ m ih =>
    intro hp k hk
    obtain ⟨j, -, -, -, hl, -⟩ := rowW_ok hr (i := m) (fun j hj => hp j (by omega))
    simp only [sK]
    rw [ih (fun j hj => hp j (by omega)) k hk, List.getD_eq_getElem?_getD (l := (rowW rows (wts.getD m wt0)).coef), List.getElem?_eq_none (l := (rowW rows (wts.getD m wt0)).coef) (by omega)]
    simp
theorem lK_more {dc : Dc} {s : Nat → Int} {n : Nat} (hs : ∀ k, n ≤ k → s k = 0) : ∀ d, lK dc s (n + d) = lK dc s n := by
  intro d
  induction d with
  | zero => rfl
  | succ d ih =>
    show lK dc s (n + d + 1) = _
    simp only [lK]
    rw [ih, hs (n + d) (by omega)]
    simp [term]
end Go.Proofs.Ytblmpmapcdpaiaa
