/- nadirlaw26.ProofUsed: the plain side. -/
import Derived.Test.YtblmpmapcdpaiaaCmp
import Derived.Test.YtblmpmapcdpaiaaK8
import Derived.Test.YtblmpmapcdpaiaaL8
import Derived.Test.YtblmpmapcdpaiaaP17
import Derived.Laws.AppendOwnNone
namespace Go.Proofs.Ytblmpmapcdpaiaa
open Go.RowKit Lib

/-- Rows as Made makes them. -/
structure TinyR (r : RowD) (k : Nat) : Prop where
  len : r.coef.length = k
  co : ∀ i, -4 ≤ r.coef.getD i 0 ∧ r.coef.getD i 0 ≤ 11
  mo : -4 ≤ r.most ∧ r.most ≤ 25
theorem madeP_tinyR (vars : Int) (x : List X3) (gain : List Int) : ∀ r ∈ (madeP vars x gain).rows, TinyR r (madeP vars x gain).vars.toNat := by
  intro r hr
  unfold madeP rowsM at hr
  obtain ⟨i, -, rfl⟩ := List.mem_map.1 hr
  refine ⟨by unfold rowM madeP; simp only [coefM_len], fun j => ?_, ?_⟩
  · show -4 ≤ (coefM _ _).getD j 0 ∧ (coefM _ _).getD j 0 ≤ 11
    generalize (pickI vars 9).toNat = m
    generalize x.getD i dX = y
    by_cases hj : j < m
    · rw [List.getD_eq_getElem?_getD, coefM, List.getElem?_map, List.getElem?_range hj]
      have := pickI_bd (Int.tdiv y.a (1 + 3 * (j : Int))) (n := 12) (by decide)
      have := pickI_bd (Int.tdiv y.b (1 + 5 * (j : Int))) (n := 5) (by decide)
      simp only [Option.map_some, Option.getD_some]
      omega
    · rw [List.getD_eq_getElem?_getD, List.getElem?_eq_none (by rw [coefM_len]; omega)]; decide
  · have := pickI_bd (x.getD i dX).c (n := 30) (by decide)
    show -4 ≤ pickI (x.getD i dX).c 30 - 4 ∧ pickI (x.getD i dX).c 30 - 4 ≤ 25
    omega
/-- The opposite of a row. -/
def negC (c : List Int) (k : Nat) : List Int := (List.range k).map fun i => -(c.getD i 0)
def oppR (r : RowD) (k : Nat) : RowD := ⟨0, 0, 0, 0, negC r.coef k, -r.most - 1⟩
theorem negC_succ (c : List Int) (k : Nat) : negC c (k + 1) = negC c k ++ [-(c.getD k 0)] := by unfold negC; rw [List.range_succ, List.map_append]; rfl
theorem negC_len (c : List Int) (k : Nat) : (negC c k).length = k := by simp [negC]
theorem negC_get (c : List Int) {k i : Nat} (h : i < k) : (negC c k).getD i 0 = -(c.getD i 0) := by
  rw [List.getD_eq_getElem?_getD, negC, List.getElem?_map, List.getElem?_range h]; rfl
theorem chK_negC (c : List Int) (k s : Nat) : ∀ j, j ≤ k → chK (negC c k) s j = -(chK c s j) := by
  intro j
  induction j with
  | zero => intro _; simp [chK]
  | succ j ih =>
    intro h
    simp only [chK]
    rw [ih (by omega), negC_get c (by omega)]
    cases bitOn s j
    · simp
    · simp only [if_true]; omega
/-- No choice keeps both. -/
theorem opp_out {r : RowD} {k : Nat} (h : r.coef.length = k) (set : Nat) (hk : keptB r set = true) : keptB (oppR r k) set = false := by
  unfold keptB ch at hk ⊢
  rw [decide_eq_true_eq] at hk
  unfold oppR
  simp only [negC_len]
  rw [chK_negC _ _ _ _ (Nat.le_refl _)]
  rw [h] at hk
  exact decide_eq_false (by omega)
/-- The program with a row and its opposite. -/
def usedP (m : Nat) (rows : List RowD) (gn : List Int) (r : RowD) : ProgD := ⟨m, rows ++ [r, oppR r m], gn⟩
theorem usedP_valid {m : Nat} {rows : List RowD} {gn : List Int} {r : RowD} (hv : validB ⟨m, rows, gn⟩ = true) (hs : TinyR r m) (hl : rows.length ≤ 8) : validB (usedP m rows gn r) = true := by
  have hc1 : coefOK r.coef = true := by
    unfold coefOK
    rw [List.all_eq_true]
    intro n hn
    obtain ⟨i, hi, rfl⟩ := List.getElem_of_mem hn
    have := hs.co i
    rw [List.getD_eq_getElem?_getD, List.getElem?_eq_getElem hi] at this
    simp at this ⊢
    omega
  have hc2 : coefOK (negC r.coef m) = true := by
    unfold coefOK
    rw [List.all_eq_true]
    intro n hn
    obtain ⟨i, -, rfl⟩ := List.mem_map.1 hn
    have := hs.co i
    simp at this ⊢
    omega
  have hm := hs.mo
  have hr1 : rightB r m = true := by
    unfold rightB mostOK
    simp only [Bool.and_eq_true, decide_eq_true_eq]
    exact ⟨⟨by rw [hs.len], hc1⟩, by omega, by omega⟩
  have hr2 : rightB (oppR r m) m = true := by
    unfold rightB mostOK oppR
    simp only [Bool.and_eq_true, decide_eq_true_eq]
    exact ⟨⟨by rw [negC_len], hc2⟩, by omega, by omega⟩
  unfold usedP
  unfold validB at hv ⊢
  simp only [Bool.and_eq_true, decide_eq_true_eq, List.all_eq_true, List.length_append] at hv ⊢
  refine ⟨⟨⟨⟨⟨hv.1.1.1.1.1, hv.1.1.1.1.2⟩, by simp; omega⟩, fun x hx => ?_⟩, hv.1.2⟩, hv.2⟩
  rcases List.mem_append.1 hx with hx | hx
  · exact hv.1.1.2 x hx
  · simp at hx
    rcases hx with rfl | rfl
    · exact hr1
    · exact hr2
theorem usedP_none {m : Nat} {rows : List RowD} {gn : List Int} {r : RowD} (hs : r.coef.length = m) (set : Nat) : keepsB (usedP m rows gn r).rows set = false := by
  refine Bool.eq_false_iff.2 fun h => ?_
  have h2 := List.all_eq_true.1 h
  have h3 := h2 r (List.mem_append_right _ (by simp))
  have h4 := h2 (oppR r m) (List.mem_append_right _ (by simp))
  rw [opp_out hs set h3] at h4
  cases h4
theorem usedP_best {m : Nat} {rows : List RowD} {gn : List Int} {r : RowD} (hs : r.coef.length = m) : bestS (usedP m rows gn r) = none := by
  have h : allS (usedP m rows gn r) = [] := by
    unfold allS
    rw [List.filter_eq_nil_iff]
    intro x _
    rw [usedP_none hs x]
    exact Bool.false_ne_true
  unfold bestS
  rw [h]
  rfl
/-- The numbers below n that b takes, and those that it does not take. -/
def selN (b : Nat → Bool) (n : Nat) : List Nat := (List.range n).filter b
theorem selN_succ (b : Nat → Bool) (n : Nat) : selN b (n + 1) = selN b n ++ if b n then [n] else [] := by
  unfold selN
  rw [List.range_succ, List.filter_append]
  congr 1
  simp [List.filter_cons]
theorem selN_at {b : Nat → Bool} {i : Nat} (hb : b i = true) : ∀ n, i < n → (selN b n)[(selN b i).length]? = some i := by
  intro n
  induction n with
  | zero => intro h; omega
  | succ n ih =>
    intro h
    rw [selN_succ]
    by_cases e : i = n
    · subst e
      rw [List.getElem?_append_right (Nat.le_refl _), hb]
      simp
    · have h2 := ih (by omega)
      rw [List.getElem?_append_left (by
        refine Classical.byContradiction fun hc => ?_
        rw [List.getElem?_eq_none (by omega)] at h2; cases h2)]
      exact h2
theorem selN_not {b : Nat → Bool} {i : Nat} (hb : b i = false) : ∀ n, i < n → ∀ j, (selN b n)[(selN b i).length]? = some j → i < j := by
  intro n
  induction n with
  | zero => intro h; omega
  | succ n ih =>
    intro h j hj
    rw [selN_succ] at hj
    by_cases e : i = n
    · subst e
      rw [hb] at hj
      simp at hj
    · by_cases h2 : (selN b i).length < (selN b n).length
      · rw [List.getElem?_append_left h2] at hj
        exact ih (by omega) j hj
      · rw [List.getElem?_append_right (by omega)] at hj
        split at hj
        · have := List.mem_of_getElem? hj
          simp at this
          omega
        · simp at hj
theorem selN_lt {b : Nat → Bool} {n j : Nat} (h : j ∈ selN b n) : j < n ∧ b j = true := by
  unfold selN at h
  rw [List.mem_filter, List.mem_range] at h
  exact h
theorem selN_mem {b : Nat → Bool} {n j : Nat} (h : j < n) (hb : b j = true) : j ∈ selN b n := by
  unfold selN
  rw [List.mem_filter, List.mem_range]
  exact ⟨h, hb⟩
theorem selN_asc {b : Nat → Bool} {n i j x y : Nat} (hij : i < j) (hi : (selN b n)[i]? = some x) (hj : (selN b n)[j]? = some y) : x < y := by
  have hp : (selN b n).Pairwise (· < ·) := List.Pairwise.filter _ List.pairwise_lt_range
  have h1 : j < (selN b n).length := by
    refine Classical.byContradiction fun hc => ?_
    rw [List.getElem?_eq_none (by omega)] at hj; cases hj
  have := List.pairwise_iff_getElem.1 hp i j (by omega) h1 hij
  rw [List.getElem?_eq_getElem (by omega)] at hi
  rw [List.getElem?_eq_getElem h1] at hj
  cases hi; cases hj
  exact this
theorem idxK_selN (b : Nat → Bool) (n : Nat) : ∀ k, k ≤ (selN b n).length → idxK (intL (selN b n)) n k = true := by
  intro k
  induction k with
  | zero => intro _; rfl
  | succ k ih =>
    intro hk
    have hg : ∀ i, i < (selN b n).length → ∃ x, (selN b n)[i]? = some x ∧ (intL (selN b n)).getD i 0 = (x : Int) := fun i hi => by
      refine ⟨_, List.getElem?_eq_getElem hi, ?_⟩
      unfold intL
      rw [List.getD_eq_getElem?_getD, List.getElem?_map, List.getElem?_eq_getElem hi]
      rfl
    obtain ⟨x, hx1, hx2⟩ := hg k (by omega)
    have hxn := (selN_lt (List.mem_of_getElem? hx1)).1
    simp only [idxK, Bool.and_eq_true, Bool.or_eq_true, decide_eq_true_eq]
    refine ⟨⟨ih (by omega), ?_⟩, ?_⟩
    · rw [hx2]
      unfold inB
      simp only [Bool.and_eq_true, decide_eq_true_eq]
      omega
    · by_cases h0 : k = 0
      · exact .inl h0
      · obtain ⟨y, hy1, hy2⟩ := hg (k - 1) (by omega)
        rw [hx2, hy2]
        have := selN_asc (by omega) hy1 hx1
        exact .inr (by omega)
theorem wK_selN {rows : List RowD} {b : Nat → Bool} {n : Nat} : ∀ k, k ≤ n → wK rows (intL (selN (fun i => !b i) n)) k = (selN b k).map fun j => rows.getD j dR := by
  intro k
  induction k with
  | zero => intro _; rfl
  | succ k ih =>
    intro hk
    rw [wK, ih (by omega), selN_succ, List.map_append]
    congr 1
    have hm : ((k : Int) ∈ intL (selN (fun i => !b i) n)) ↔ b k = false := by
      unfold intL
      rw [List.mem_map]
      constructor
      · rintro ⟨x, hx, e⟩
        obtain rfl : x = k := by omega
        simpa using (selN_lt hx).2
      · intro h
        exact ⟨k, selN_mem (by omega) (by simp [h]), rfl⟩
    cases hb : b k with
    | false => rw [decide_eq_true (hm.2 hb)]; rfl
    | true =>
      rw [decide_eq_false (fun h => by rw [hm.1 h] at hb; cases hb)]
      rfl
/-- What is left when all but the used rows are left out. -/
theorem used_left {p : ProgD} {l : List StepD} (h : wrongD p l = -1) {b : Nat → Bool} (hb : usedV l l.length 0 (fun _ => false) = b) :
    rowsU p l = intL (selN b p.rows.length) ∧ withoutE p (intL (selN (fun i => !b i) p.rows.length)) = 0 ∧
    (∃ q, withoutV p (intL (selN (fun i => !b i) p.rows.length)) = q ∧ q.rows.length = (selN b p.rows.length).length ∧ errV q = 0 ∧ allV q = []) := by
  have hv : validB p = true := (checkV_ok h).1
  have hok : withoutOK p (intL (selN (fun i => !b i) p.rows.length)) = true := by
    unfold withoutOK
    rw [hv, Bool.and_true, intL_len]
    exact idxK_selN _ _ _ (Nat.le_refl _)
  refine ⟨?_, ?_, ?_⟩
  · unfold rowsU
    rw [if_pos h, hb]
    rfl
  · unfold withoutE
    rw [if_pos hok]
  · refine ⟨_, rfl, ?_⟩
    unfold withoutV
    rw [if_pos hok, wK_selN _ (Nat.le_refl _)]
    have hvq : validB ⟨p.vars, (selN b p.rows.length).map (fun j => p.rows.getD j dR), p.gain⟩ = true := by
      unfold validB at hv ⊢
      simp only [Bool.and_eq_true, decide_eq_true_eq, List.all_eq_true] at hv ⊢
      refine ⟨⟨⟨⟨⟨hv.1.1.1.1.1, hv.1.1.1.1.2⟩, ?_⟩, fun x hx => ?_⟩, hv.1.2⟩, hv.2⟩
      · rw [List.length_map]
        have : (selN b p.rows.length).length ≤ (List.range p.rows.length).length := List.length_filter_le _ _
        rw [List.length_range] at this
        omega
      · obtain ⟨j, hj, rfl⟩ := List.mem_map.1 hx
        exact hv.1.1.2 _ (List.mem_of_getElem? (getD_some dR (selN_lt hj).1))
    refine ⟨by simp, by unfold errV; rw [if_pos hvq], ?_⟩
    unfold allV
    rw [if_pos hvq]
    have : chL ((selN b p.rows.length).map (fun j => p.rows.getD j dR)) (2 ^ p.vars.toNat) = [] := by
      unfold chL
      rw [List.filter_eq_nil_iff]
      intro set _ hk
      obtain ⟨j, h1, h2, h3⟩ := checkV_sound (validB_rows hv) h set
      rw [hb] at h2
      have := List.all_eq_true.1 hk _ (List.mem_map.2 ⟨j, selN_mem h1 h2, rfl⟩)
      rw [getD_any h1 dR rowE, h3] at this
      cases this
    show intL _ = []
    rw [this]
    rfl
/-- The sum of a row and its opposite is a leaf by itself. -/
def shortL (n : Nat) : List StepD := [⟨-1, 0, 0, [⟨(n : Int), 1⟩, ⟨(n : Int) + 1, 1⟩]⟩]
theorem short_refutes {m : Nat} {rows : List RowD} {gn : List Int} {r : RowD} (hv : validB (usedP m rows gn r) = true) : wrongD (usedP m rows gn r) (shortL rows.length) = -1 := by
  have e0 : (rows ++ [r, oppR r m]).getD rows.length rowE = r := by
    rw [List.getD_eq_getElem?_getD, List.getElem?_append_right (Nat.le_refl _), Nat.sub_self]; rfl
  have e1 : (rows ++ [r, oppR r m]).getD (rows.length + 1) rowE = oppR r m := by
    rw [List.getD_eq_getElem?_getD, List.getElem?_append_right (by omega), show rows.length + 1 - rows.length = 1 by omega]; rfl
  have t1 : ((rows.length : Int) + 1).toNat = rows.length + 1 := by omega
  have hlf : leafV (rows ++ [r, oppR r m]) m ⟨-1, 0, 0, [⟨(rows.length : Int), 1⟩, ⟨(rows.length : Int) + 1, 1⟩]⟩ (fun _ => -1) = true := by
    unfold leafV
    rw [Bool.and_eq_true, Bool.and_eq_true]
    refine ⟨by simp [headL, inB], ?_, ?_⟩
    · unfold okW
      rw [List.all_eq_true]
      intro i hi
      rw [List.mem_range] at hi
      have hi2 : i = 0 ∨ i = 1 := by simp at hi; omega
      rcases hi2 with rfl | rfl
      · unfold wtB inB
        simp [lastK]
        omega
      · unfold wtB inB
        simp [lastK]
        omega
    · unfold overB
      rw [decide_eq_true_eq]
      have hs : ∀ k, k < m → sK (rows ++ [r, oppR r m]) [⟨(rows.length : Int), 1⟩, ⟨(rows.length : Int) + 1, 1⟩] 2 k = 0 := fun k hk => by
        show 0 + 1 * _ + 1 * _ = (0 : Int)
        unfold rowW
        show 0 + 1 * ((rows ++ [r, oppR r m]).getD (Int.toNat (rows.length : Int)) rowE).coef.getD k 0 + 1 * ((rows ++ [r, oppR r m]).getD ((rows.length : Int) + 1).toNat rowE).coef.getD k 0 = 0
        rw [Int.toNat_natCast, t1, e0, e1]
        show 0 + 1 * r.coef.getD k 0 + 1 * (negC r.coef m).getD k 0 = 0
        rw [negC_get _ hk]
        omega
      have hl : ∀ k, k ≤ m → lK (fun _ => -1) (sK (rows ++ [r, oppR r m]) [⟨(rows.length : Int), 1⟩, ⟨(rows.length : Int) + 1, 1⟩] 2) k = 0 := by
        intro k
        induction k with
        | zero => intro _; rfl
        | succ k ih =>
          intro hk
          rw [lK, ih (by omega), hs k (by omega)]
          decide
      show mK _ _ 2 < lK _ (sK _ _ 2) m
      rw [hl m (Nat.le_refl _)]
      show 0 + 1 * ((rows ++ [r, oppR r m]).getD (Int.toNat (rows.length : Int)) rowE).most + 1 * ((rows ++ [r, oppR r m]).getD ((rows.length : Int) + 1).toNat rowE).most < 0
      rw [Int.toNat_natCast, t1, e0, e1]
      show 0 + 1 * r.most + 1 * (-r.most - 1) < 0
      omega
  refine checkV_mk hv (by unfold shortL; simp) (by unfold shortL; simp) ?_
  show wrongV (rows ++ [r, oppR r m]) (shortL rows.length) (Int.toNat (m : Int)) 1 0 (fun _ => -1) = -1
  rw [Int.toNat_natCast]
  unfold shortL
  simp only [wrongV, List.getElem?_cons_zero, if_true]
  rw [if_pos hlf]
end Go.Proofs.Ytblmpmapcdpaiaa

namespace Go.Proofs.Ytblmpmapcdpaiaa
open Go.RowKit Go.Shelf Lib

theorem cat_own_empty {W : World} {B base : Nat} (hb : Blk W B #[] 26) (h : base ≤ B) : W.ownsRow base 26 6 (.slice (some ⟨B, 0, none⟩) 0 0) 0 [] :=
  ⟨rfl, .inr ⟨B, 0, #[], rfl, h, hb, Nat.le_refl _, by decide, rfl, rfl⟩⟩
theorem cat_rowO_one {W : World} {ds : List Value} {r : RowD} (h : RowO W ds r) : ∀ u ∈ ds, u.oneCell' = true := by
  obtain ⟨vc, rfl, h2⟩ := h
  obtain ⟨a, c, rfl, -, -⟩ := owned_len h2
  intro u hu
  simp at hu
  rcases hu with rfl | rfl | rfl | rfl | rfl | rfl <;> rfl
theorem cat_flat_one {W : World} : ∀ {l : List RowD} {cs : List Value}, FlatC 6 RowO W cs l → ∀ u ∈ cs, u.oneCell' = true := by
  intro l
  induction l with
  | nil => intro cs h u hu; rw [show cs = [] from h] at hu; cases hu
  | cons y l ih =>
    rintro cs ⟨ds, rest, rfl, -, h2, h⟩ u hu
    rcases List.mem_append.1 hu with h3 | h3
    · exact cat_rowO_one h2 u h3
    · exact ih h u h3
theorem T3.cat_grown0 {A B : World} {base e n m : Nat} {v : Value} {xs : List Value} (hown : A.ownsRow base e n v m xs) (he : e ≠ 3) (hg : A.grownBy B v.ownBlock) : T3 A B := fun k cs fz h => by
  have hk := (Array.getElem?_eq_some_iff.1 h).1
  refine (hg.block k hk (fun e2 => ?_)).trans h
  rcases hown.2 with ⟨rfl, -⟩ | ⟨g, cap, cur, rfl, -, hgg, -⟩
  · cases e2
  · obtain rfl : k = g := by simpa [Value.ownBlock] using e2
    have := hgg.symm.trans h
    simp at this; exact he this.2.1
theorem cat_step_app {ops : Array Oper} {o : Oper} {a : Act} {w : World} {K : Act → World → Prop} {Q : Exit → Act → World → Prop} {E : Prop}
    (hg : o.guard = none) (s x : Operand) (hop : o.op = Op.call { callee := Callee.builtin Builtin.append, args := #[s, x], argTypes := #[27, 27] })
    (base : Nat) {v : Value} {n m c : Nat} {xs news : List Value} {xa : Option Addr} (hown : w.ownsRow base 26 6 v n xs) (hs : a.eval s = v) (hx : a.eval x = .slice xa m c) (hl : news.length = m * 6)
    (hnews : ∀ p, xa = some p → ∀ j u, news[j]? = some u → w.cell? (p.add j) = some u) (hnone : xa = none → m = 0 ∧ c = 0) (h1 : ∀ u ∈ news, u.oneCell' = true) (hn : n + m ≤ 1000) (hbase : base ≤ w.heap.size)
    (hK : ∀ v' w', w'.ownsRow base 26 6 v' (n + m) (xs ++ news) → w.grownBy w' v.ownBlock → K (a.put o.dst v') w') :
    if Region.wanted o (yielded ops a.tmps) = true then Oper.wp Try.prog o a w K Q else E := by
  have hw : Region.wanted o (yielded ops a.tmps) = true := by simp [Region.wanted, hg]
  rw [if_pos hw]
  obtain ⟨i, hi, hz0, hz1, hz2⟩ := info_parts E27.info
  cases xa with
  | none =>
    obtain ⟨rfl, rfl⟩ := hnone rfl
    obtain rfl : news = [] := List.eq_nil_of_length_eq_zero (by simpa using hl)
    have hrun := run_append_owned_none (P := Try.prog) (w := w) base 27 o.type 26 i 6 E27.und hi v n xs hown
    have := hK v w (by simpa using hown) ⟨rfl, rfl, rfl, Nat.le_refl _, fun _ _ _ => rfl⟩
    unfold Oper.wp
    simp [execOp, hop, resolve, invoke, builtin, hs, hx, hrun, Result.andThen]
    exact this
  | some p =>
    obtain ⟨v', w', hrun, r1, r2, -⟩ := run_append_own (P := Try.prog) w base 27 o.type 26 i _ 6 64 E27.und hi hz0 hz1 hz2 E27.zs E27.pos v n xs hown p m c news hl (hnews p rfl) h1 (by unfold maxLen; omega) (by omega) hbase
    unfold Oper.wp
    simp [execOp, hop, resolve, invoke, builtin, hs, hx, hrun, Result.andThen]
    exact hK v' w' r1 r2

theorem cat_step_appT {ops : Array Oper} {o : Oper} {a : Act} {w : World} {K : Act → World → Prop} {Q : Exit → Act → World → Prop} {E : Prop}
    (hg : o.guard = none) (s x : Operand) (hop : o.op = Op.call { callee := Callee.builtin Builtin.append, args := #[s, x], argTypes := #[27, 27] })
    (base : Nat) {v : Value} {n m c : Nat} {xs news : List Value} {xa : Option Addr} (hown : w.ownsRow base 26 6 v n xs) (hs : a.eval s = v) (hx : a.eval x = .slice xa m c) (hl : news.length = m * 6)
    (hnews : ∀ p, xa = some p → ∀ j u, news[j]? = some u → w.cell? (p.add j) = some u) (hnone : xa = none → m = 0 ∧ c = 0) (h1 : ∀ u ∈ news, u.oneCell' = true) (hn : n + m ≤ 1000) (hbase : base ≤ w.heap.size)
    (hK : ∀ v' w', w'.ownsRow base 26 6 v' (n + m) (xs ++ news) → T3 w w' → (∀ k, k < w.heap.size → some k ≠ v.ownBlock → w'.heap[k]? = w.heap[k]?) → Below base w w' → K (a.put o.dst v') w') :
    if Region.wanted o (yielded ops a.tmps) = true then Oper.wp Try.prog o a w K Q else E :=
  cat_step_app hg s x hop base hown hs hx hl hnews hnone h1 hn hbase fun v' w' h2 h3 => hK v' w' h2 (T3.cat_grown0 hown (by decide) h3) (fun k hk hv => h3.block k hk hv) ((Below.refl _ _).grown h3 hbase (fun j hj => (hown.lt j hj).1))
end Go.Proofs.Ytblmpmapcdpaiaa
