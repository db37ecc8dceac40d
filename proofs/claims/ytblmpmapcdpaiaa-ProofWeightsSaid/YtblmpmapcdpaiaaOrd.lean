/- Rows appended to rows of the call's own; a row of an own slice renamed; the order and the names of rows play no part. -/
import Derived.Test.YtblmpmapcdpaiaaL8
import Derived.Laws.AppendOwnNone
namespace Go.Proofs.Ytblmpmapcdpaiaa
open Go.RowKit Go.Shelf Lib

theorem FlatC.split {α : Type} {n : Nat} {R : World → List Value → α → Prop} {W : World} : ∀ {l m : List α} {y : α} {cs : List Value}, FlatC n R W cs (l ++ y :: m) → ∃ c1 ds c2, cs = c1 ++ (ds ++ c2) ∧ FlatC n R W c1 l ∧ ds.length = n ∧ R W ds y ∧ FlatC n R W c2 m := by
  intro l
  induction l with
  | nil =>
    rintro m y cs ⟨ds, rest, rfl, h1, h2, h⟩
    exact ⟨[], ds, rest, rfl, rfl, h1, h2, h⟩
  | cons x l ih =>
    rintro m y cs ⟨es, rest, rfl, h1, h2, h⟩
    obtain ⟨c1, ds, c2, rfl, k1, k2, k3, k4⟩ := ih h
    exact ⟨es ++ c1, ds, c2, by rw [List.append_assoc], ⟨es, c1, rfl, h1, h2, k1⟩, k2, k3, k4⟩
theorem FlatC.join {α : Type} {n : Nat} {R : World → List Value → α → Prop} {W : World} {l m : List α} {y : α} {c1 ds c2 : List Value} (h1 : FlatC n R W c1 l) (h2 : ds.length = n) (h3 : R W ds y) (h4 : FlatC n R W c2 m) : FlatC n R W (c1 ++ (ds ++ c2)) (l ++ y :: m) :=
  h1.app ⟨ds, c2, rfl, h2, h3, h4⟩

/-- An append of any slice of rows to rows of the call's own, as a step of a region that draws. -/
theorem step_app {ops : Array Oper} {o : Oper} {a : Act} {w : World} {K : Act → World → Prop} {Q : Exit → Act → World → Prop} {E : Prop}
    (hg : o.guard = none) (s x : Operand) (hop : o.op = Op.call { callee := Callee.builtin Builtin.append, args := #[s, x], argTypes := #[27, 27] })
    (base : Nat) {v : Value} {n m c : Nat} {xs news : List Value} {xa : Option Addr} (hown : w.ownsRow base 26 6 v n xs) (hs : a.eval s = v) (hx : a.eval x = .slice xa m c) (hl : news.length = m * 6)
    (hnews : ∀ p, xa = some p → ∀ j u, news[j]? = some u → w.cell? (p.add j) = some u) (hnone : xa = none → m = 0 ∧ c = 0) (h1 : ∀ u ∈ news, u.oneCell' = true) (hn : n + m ≤ 1000) (hbase : base ≤ w.heap.size)
    (hK : ∀ v' w', w'.ownsRow base 26 6 v' (n + m) (xs ++ news) → w.grownBy w' v.ownBlock → K (a.put o.dst v') w') :
    if Region.wanted o (yielded ops a.tmps) = true then Oper.wp Try.prog o a w K Q else E := by
  have hw : Region.wanted o (yielded ops a.tmps) = true := by simp [Region.wanted, hg]
  rw [if_pos hw]
  obtain ⟨i, hi, hz0, hz1, hz2⟩ := info_parts E27.info
  cases xa with
  | none =>
    obtain ⟨rfl, rfl⟩ := hnone rfl
    obtain rfl : news = [] := List.eq_nil_of_length_eq_zero (by simpa using hl)
    have hrun := run_append_owned_none (P := Try.prog) (w := w) base 27 o.type 26 i 6 E27.und hi v n xs hown
    have := hK v w (by simpa using hown) ⟨rfl, rfl, rfl, Nat.le_refl _, fun _ _ _ => rfl⟩
    unfold Oper.wp
    simp [execOp, hop, resolve, invoke, builtin, hs, hx, hrun, Result.andThen]
    exact this
  | some p =>
    obtain ⟨v', w', hrun, r1, r2, -⟩ := run_append_own (P := Try.prog) w base 27 o.type 26 i _ 6 64 E27.und hi hz0 hz1 hz2 E27.zs E27.pos v n xs hown p m c news hl (hnews p rfl) h1 (by unfold maxLen; omega) (by omega) hbase
    unfold Oper.wp
    simp [execOp, hop, resolve, invoke, builtin, hs, hx, hrun, Result.andThen]
    exact hK v' w' r1 r2

/-- The same rows under other names. -/
def ren (q : Int × Int × Int × Int) (r : RowD) : RowD := { r with kind := q.1, a := q.2.1, b := q.2.2.1, at_ := q.2.2.2 }
def turned (rows : List RowD) (k : Nat) : List RowD := rows.drop k ++ rows.take k
theorem keepsB_turned (rows : List RowD) (k : Nat) (q : Int × Int × Int × Int) (s : Nat) : keepsB ((turned rows k).map (ren q)) s = keepsB rows s := by
  unfold keepsB turned
  rw [List.all_map]
  have e : ((fun r => keptB r s) ∘ ren q) = fun r => keptB r s := by funext r; rfl
  rw [e, List.all_append, Bool.and_comm, ← List.all_append, List.take_append_drop]
theorem valid_turned (vars : Int) (rows : List RowD) (gn : List Int) (k : Nat) (q : Int × Int × Int × Int) : validB ⟨vars, (turned rows k).map (ren q), gn⟩ = validB ⟨vars, rows, gn⟩ := by
  unfold validB
  have e : (((turned rows k).map (ren q)).all fun r => rightB r vars) = rows.all fun r => rightB r vars := by
    rw [List.all_map]
    have e : ((fun r => rightB r vars) ∘ ren q) = fun r => rightB r vars := by funext r; rfl
    unfold turned
    rw [e, List.all_append, Bool.and_comm, ← List.all_append, List.take_append_drop]
  have e2 : ((turned rows k).map (ren q)).length = rows.length := by unfold turned; simp; omega
  simp only [e, e2]
theorem chL_turned (rows : List RowD) (k : Nat) (q : Int × Int × Int × Int) (m : Nat) : chL ((turned rows k).map (ren q)) m = chL rows m := by
  unfold chL
  congr 1
  funext s
  exact keepsB_turned rows k q s
theorem order_law (vars : Int) (rows : List RowD) (gn : List Int) (k : Nat) (q : Int × Int × Int × Int) (hv : validB ⟨vars, rows, gn⟩ = true) :
    errV ⟨vars, (turned rows k).map (ren q), gn⟩ = 0 ∧ errV ⟨vars, rows, gn⟩ = 0 ∧ allV ⟨vars, (turned rows k).map (ren q), gn⟩ = allV ⟨vars, rows, gn⟩ ∧
      ∃ f s g p1 p2, solveV ⟨vars, rows, gn⟩ = ⟨f, s, g, p1⟩ ∧ solveV ⟨vars, (turned rows k).map (ren q), gn⟩ = ⟨f, s, g, p2⟩ := by
  have hv2 := (valid_turned vars rows gn k q).trans hv
  have hb : bestS ⟨vars, (turned rows k).map (ren q), gn⟩ = bestS ⟨vars, rows, gn⟩ := by
    show (chL ((turned rows k).map (ren q)) _).foldl _ _ = (chL rows _).foldl _ _
    rw [chL_turned]
  refine ⟨by unfold errV; rw [hv2]; rfl, by unfold errV; rw [hv]; rfl, ?_, ?_⟩
  · unfold allV
    rw [hv, hv2, if_pos rfl, if_pos rfl]
    simp only [chL_turned]
  · unfold solveV
    rw [hv, hv2, if_pos rfl, if_pos rfl, hb]
    cases bestS ⟨vars, rows, gn⟩ with
    | none => exact ⟨_, _, _, _, _, rfl, rfl⟩
    | some x => exact ⟨_, _, _, _, _, rfl, rfl⟩
end Go.Proofs.Ytblmpmapcdpaiaa
