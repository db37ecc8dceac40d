/- The map of used rows: as a set of numbers. -/
import Derived.Test.YtblmpmapcdpaiaaK1
import Derived.Maps.OwnOps
import Derived.Lib.SlKeysI
import Derived.WalkArith
namespace Go.Proofs.Ytblmpmapcdpaiaa
open Go.RowKit Go.Maps

def ent (i : Nat) : Lit × DataW Unit := (.int .i64 (i : Int), .lit (.bool true))
/-- The datum of a map[int]bool whose keys are the marked numbers below R. -/
def usedD (b : Nat → Bool) (R : Nat) : DataW Unit := .map (((List.range R).filter b).map ent)
def mark (b : Nat → Bool) (j : Nat) : Nat → Bool := fun i => b i || decide (i = j)
theorem insert_mid (x : Lit × DataW Unit) : ∀ (A B : List (Lit × DataW Unit)), (∀ y ∈ A, x.1.before y.1 = false) → (∀ y ∈ B, x.1.before y.1 = true) → DataW.insert x (A ++ B) = A ++ x :: B := by
  intro A
  induction A with
  | nil =>
    intro B _ hB
    cases B with
    | nil => rfl
    | cons y r => simp [DataW.insert, hB y (by simp)]
  | cons a A ih =>
    intro B hA hB
    simp only [List.cons_append, DataW.insert, hA a (by simp)]
    rw [ih B (fun y hy => hA y (by simp [hy])) hB]
    rfl
theorem range_split {R j : Nat} (h : j < R) : List.range R = List.range j ++ j :: (List.range (R - j - 1)).map (· + (j + 1)) := by
  apply List.ext_getElem?
  intro i
  by_cases h1 : i < j
  · rw [List.getElem?_append_left (by simpa using h1), List.getElem?_range (by omega), List.getElem?_range h1]
  · rw [List.getElem?_append_right (by simpa using h1), List.length_range]
    by_cases h2 : i = j
    · subst h2; simp [h]
    · obtain ⟨k, hk⟩ : ∃ k, i - j = k + 1 := ⟨i - j - 1, by omega⟩
      rw [hk, List.getElem?_cons_succ]
      by_cases h3 : i < R
      · rw [List.getElem?_range h3, List.getElem?_map, List.getElem?_range (by omega)]
        simp; omega
      · rw [List.getElem?_eq_none (by simp; omega), List.getElem?_eq_none (by simp; omega)]
theorem used_put {b : Nat → Bool} {R j : Nat} (h : j < R) : (usedD b R).put (.int .i64 (j : Int)) (.lit (.bool true)) = usedD (mark b j) R := by
  unfold usedD DataW.put
  simp only
  congr 1
  have e1 : (((List.range R).filter b).map ent).filter (fun p => !p.1.sameKey (.int .i64 (j : Int))) = (((List.range R).filter fun i => b i && decide (i ≠ j))).map ent := by
    rw [List.filter_map, List.filter_filter]
    congr 1
    refine List.filter_congr fun i _ => ?_
    simp only [Function.comp, ent, Lit.sameKey]
    by_cases e : i = j
    · subst e; simp
    · have : ¬ ((i : Int) = (j : Int)) := by omega
      simp [e, this]
  rw [e1, range_split h]
  simp only [List.filter_append, List.filter_cons, List.map_append]
  have hj : (b j && decide (j ≠ j)) = false := by simp
  have hm : mark b j j = true := by simp [mark]
  rw [hj, hm, if_neg (by simp), if_pos rfl, List.map_cons]
  have e2 : (List.range j).filter (fun i => b i && decide (i ≠ j)) = (List.range j).filter (mark b j) := by
    refine List.filter_congr fun i hi => ?_
    have : i < j := by simpa using hi
    have h2 : i ≠ j := by omega
    simp [mark, h2]
  have e3 : ((List.range (R - j - 1)).map (· + (j + 1))).filter (fun i => b i && decide (i ≠ j)) = ((List.range (R - j - 1)).map (· + (j + 1))).filter (mark b j) := by
    refine List.filter_congr fun i hi => ?_
    obtain ⟨k, -, rfl⟩ := List.mem_map.1 hi
    have h2 : k + (j + 1) ≠ j := by omega
    simp [mark, h2]
  rw [e2, e3]
  show DataW.insert (ent j) _ = _
  apply insert_mid
  · intro y hy
    obtain ⟨i, hi, rfl⟩ := List.mem_map.1 hy
    have : i < j := by have := (List.mem_filter.1 hi).1; simpa using this
    simp only [ent, Lit.before]
    exact decide_eq_false (by omega)
  · intro y hy
    obtain ⟨i, hi, rfl⟩ := List.mem_map.1 hy
    obtain ⟨k, -, rfl⟩ := List.mem_map.1 (List.mem_filter.1 hi).1
    simp only [ent, Lit.before]
    exact decide_eq_true (by omega)
/-- Block M is a map whose keys are the marked numbers below R. -/
def UsedAt (W : World) (M R : Nat) (b : Nat → Bool) : Prop := W.ownsMap Try.prog 3 (plainElem Try.prog 4) M R (usedD b R)
theorem used_size {W : World} {M n R : Nat} {b : Nat → Bool} (h : W.ownsMap Try.prog 3 (plainElem Try.prog 4) M n (usedD b R)) : UsedAt W M R b := by
  obtain ⟨es, clock, hb, F, hs, hD⟩ := h
  refine ⟨es, clock, hb, F, ?_, hD⟩
  have h1 : ((es.toList.map (Go.WideElems.rg Try.prog 3 (plainElem (H := Unit) Try.prog 4))).foldr DataW.insert []).length = es.size := by rw [length_sorted]; simp
  unfold usedD at hD

  have h2 : (((List.range R).filter b).map ent).length = es.size := by
    rw [← h1]
    exact congrArg (fun d : DataW Unit => match d with | .map l => l.length | _ => 0) hD
  rw [List.length_map] at h2
  have := List.length_filter_le b (List.range R)
  rw [List.length_range] at this
  omega
theorem UsedAt.empty (W : World) (R : Nat) : UsedAt (W.alloc (.map #[] 0)) W.heap.size R (fun _ => false) := by
  refine used_size (n := 0) ?_
  have : usedD (fun _ => false) R = .map [] := by unfold usedD; simp
  rw [this]
  exact World.ownsMap_made W _ _ _
theorem used_keys (b : Nat → Bool) (R : Nat) : intKeys (usedD b R) = ((List.range R).filter b).map fun i : Nat => (i : Int) := by
  unfold usedD intKeys
  simp only
  rw [List.map_map]
  rfl
theorem key3 (j : Int) (h : (Lit.int .i64 j).wf = true) : keyOf Try.prog 3 (.int .i64 j) = some (.int .i64 j) := keyOf_int_mk Try.underlying3 h
/-- 'used[j] = true'. -/
theorem wpList_mark {W : World} {ops : Array Oper} {rest : List Oper} {o : Oper} {a : Act} {Q : Exit → Act → World → Prop} (hg : o.guard = none) (m x v : Operand) (hop : o.op = Op.mapUpdate 107 m x v)
    {M R j : Nat} {b : Nat → Bool} (hm : a.eval m = .map (some M)) (hown : UsedAt W M R b) (hR : R ≤ 1000) (hj : j < R) (hx : a.eval x = .int .i64 (j : Int)) (hv : a.eval v = .bool true)
    (hK : ∀ w', UsedAt w' M R (mark b j) → W.grownBy w' (some M) → wpList Try.prog ops Q rest (a.put o.dst undef) w') : wpList Try.prog ops Q (o :: rest) a W := by
  refine wpList_mapUpdate_own W hg m x v 107 hop 3 4 (int_keyed Try.underlying3) Try.underlying107 _ M R _ hm hown (by unfold maxLen; omega) _ _ _ hx hv (key3 (j : Int) ?_) _ [] (plainElem_bool Try.underlying4 true) ?_
  · exact WalkArith.wf_i64 (by omega)
  · intro w' h1 h2
    rw [used_put hj] at h1
    exact hK w' (used_size h1) h2
end Go.Proofs.Ytblmpmapcdpaiaa
