/- Rows appended to rows of the call's own, in a region that draws its order. -/
import Derived.Test.YtblmpmapcdpaiaaP17
import Derived.Laws.AppendOwnNone
namespace Go.Proofs.Ytblmpmapcdpaiaa
open Go.RowKit Go.Shelf Lib

theorem cat_own_empty {W : World} {B base : Nat} (hb : Blk W B #[] 26) (h : base ≤ B) : W.ownsRow base 26 6 (.slice (some ⟨B, 0, none⟩) 0 0) 0 [] :=
  ⟨rfl, .inr ⟨B, 0, #[], rfl, h, hb, Nat.le_refl _, by decide, rfl, rfl⟩⟩
theorem cat_rowO_one {W : World} {ds : List Value} {r : RowD} (h : RowO W ds r) : ∀ u ∈ ds, u.oneCell' = true := by
  obtain ⟨vc, rfl, h2⟩ := h
  obtain ⟨a, c, rfl, -, -⟩ := owned_len h2
  intro u hu
  simp at hu
  rcases hu with rfl | rfl | rfl | rfl | rfl | rfl <;> rfl
theorem cat_flat_one {W : World} : ∀ {l : List RowD} {cs : List Value}, FlatC 6 RowO W cs l → ∀ u ∈ cs, u.oneCell' = true := by
  intro l
  induction l with
  | nil => intro cs h u hu; rw [show cs = [] from h] at hu; cases hu
  | cons y l ih =>
    rintro cs ⟨ds, rest, rfl, -, h2, h⟩ u hu
    rcases List.mem_append.1 hu with h3 | h3
    · exact cat_rowO_one h2 u h3
    · exact ih h u h3
theorem T3.cat_grown0 {A B : World} {base e n m : Nat} {v : Value} {xs : List Value} (hown : A.ownsRow base e n v m xs) (he : e ≠ 3) (hg : A.grownBy B v.ownBlock) : T3 A B := fun k cs fz h => by
  have hk := (Array.getElem?_eq_some_iff.1 h).1
  refine (hg.block k hk (fun e2 => ?_)).trans h
  rcases hown.2 with ⟨rfl, -⟩ | ⟨g, cap, cur, rfl, -, hgg, -⟩
  · cases e2
  · obtain rfl : k = g := by simpa [Value.ownBlock] using e2
    have := hgg.symm.trans h
    simp at this; exact he this.2.1
theorem cat_step_app {ops : Array Oper} {o : Oper} {a : Act} {w : World} {K : Act → World → Prop} {Q : Exit → Act → World → Prop} {E : Prop}
    (hg : o.guard = none) (s x : Operand) (hop : o.op = Op.call { callee := Callee.builtin Builtin.append, args := #[s, x], argTypes := #[27, 27] })
    (base : Nat) {v : Value} {n m c : Nat} {xs news : List Value} {xa : Option Addr} (hown : w.ownsRow base 26 6 v n xs) (hs : a.eval s = v) (hx : a.eval x = .slice xa m c) (hl : news.length = m * 6)
    (hnews : ∀ p, xa = some p → ∀ j u, news[j]? = some u → w.cell? (p.add j) = some u) (hnone : xa = none → m = 0 ∧ c = 0) (h1 : ∀ u ∈ news, u.oneCell' = true) (hn : n + m ≤ 1000) (hbase : base ≤ w.heap.size)
    (hK : ∀ v' w', w'.ownsRow base 26 6 v' (n + m) (xs ++ news) → w.grownBy w' v.ownBlock → K (a.put o.dst v') w') :
    if Region.wanted o (yielded ops a.tmps) = true then Oper.wp Try.prog o a w K Q else E := by
  have hw : Region.wanted o (yielded ops a.tmps) = true := by simp [Region.wanted, hg]
  rw [if_pos hw]
  obtain ⟨i, hi, hz0, hz1, hz2⟩ := info_parts E27.info
  cases xa with
  | none =>
    obtain ⟨rfl, rfl⟩ := hnone rfl
    obtain rfl : news = [] := List.eq_nil_of_length_eq_zero (by simpa using hl)
    have hrun := run_append_owned_none (P := Try.prog) (w := w) base 27 o.type 26 i 6 E27.und hi v n xs hown
    have := hK v w (by simpa using hown) ⟨rfl, rfl, rfl, Nat.le_refl _, fun _ _ _ => rfl⟩
    unfold Oper.wp
    simp [execOp, hop, resolve, invoke, builtin, hs, hx, hrun, Result.andThen]
    exact this
  | some p =>
    obtain ⟨v', w', hrun, r1, r2, -⟩ := run_append_own (P := Try.prog) w base 27 o.type 26 i _ 6 64 E27.und hi hz0 hz1 hz2 E27.zs E27.pos v n xs hown p m c news hl (hnews p rfl) h1 (by unfold maxLen; omega) (by omega) hbase
    unfold Oper.wp
    simp [execOp, hop, resolve, invoke, builtin, hs, hx, hrun, Result.andThen]
    exact hK v' w' r1 r2

theorem cat_step_appT {ops : Array Oper} {o : Oper} {a : Act} {w : World} {K : Act → World → Prop} {Q : Exit → Act → World → Prop} {E : Prop}
    (hg : o.guard = none) (s x : Operand) (hop : o.op = Op.call { callee := Callee.builtin Builtin.append, args := #[s, x], argTypes := #[27, 27] })
    (base : Nat) {v : Value} {n m c : Nat} {xs news : List Value} {xa : Option Addr} (hown : w.ownsRow base 26 6 v n xs) (hs : a.eval s = v) (hx : a.eval x = .slice xa m c) (hl : news.length = m * 6)
    (hnews : ∀ p, xa = some p → ∀ j u, news[j]? = some u → w.cell? (p.add j) = some u) (hnone : xa = none → m = 0 ∧ c = 0) (h1 : ∀ u ∈ news, u.oneCell' = true) (hn : n + m ≤ 1000) (hbase : base ≤ w.heap.size)
    (hK : ∀ v' w', w'.ownsRow base 26 6 v' (n + m) (xs ++ news) → T3 w w' → (∀ k, k < w.heap.size → some k ≠ v.ownBlock → w'.heap[k]? = w.heap[k]?) → Below base w w' → K (a.put o.dst v') w') :
    if Region.wanted o (yielded ops a.tmps) = true then Oper.wp Try.prog o a w K Q else E :=
  cat_step_app hg s x hop base hown hs hx hl hnews hnone h1 hn hbase fun v' w' h2 h3 => hK v' w' h2 (T3.cat_grown0 hown (by decide) h3) (fun k hk hv => h3.block k hk hv) ((Below.refl _ _).grown h3 hbase (fun j hj => (hown.lt j hj).1))
end Go.Proofs.Ytblmpmapcdpaiaa
