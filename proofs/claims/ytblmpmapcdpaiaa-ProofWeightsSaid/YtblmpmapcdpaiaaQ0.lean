/- Texts Q7, Q8 in one. -/
import Derived.Test.YtblmpmapcdpaiaaQ9
import Derived.Laws.AppendOwnNone
section
/- A copy of steps in which one is changed: in memory. -/
namespace Go.Proofs.Ytblmpmapcdpaiaa
open Go.RowKit Lib

theorem E78 : ElemOK Try.prog 78 82 (.agg #[.int .i64 0, .int .i64 0]) 2 16 := ⟨Try.underlying78, by kernel_rfl, rfl, by decide⟩
theorem run_append_none (w : World) (base : Nat) (t ty e : TypeId) (i : TypeInfo) (size c : Nat) (ht : Try.prog.underlying t = some (.slice e)) (hi : Try.prog.info? e = some i) (v : Value) (n : Nat) (xs : List Value) (hown : w.ownsRow base e size v n xs) :
    (Builtin.append_ #[t, t] ty #[v, .slice none 0 c]).run Try.prog w = .ok v w := by
  rcases hown.2 with ⟨rfl, rfl⟩ | ⟨g, cap, cur, rfl, _, _, hnc, _⟩
  · simp [Builtin.append_, run_underlying ht, sizeOf, typeInfo, hi, Builtin.lenOf, Builtin.firstCells]
  · simp [Builtin.append_, run_underlying ht, sizeOf, typeInfo, hi, Builtin.lenOf, Builtin.firstCells, hnc, storeCells]
/-- 'append(own, any...)': own is no nil slice. -/
theorem wpList_appN {t e : TypeId} {z : Value} {size bytes : Nat} {ops : Array Oper} {rest : List Oper} {o : Oper} {a : Act} {Q : Exit → Act → World → Prop} {w : World} (E : ElemOK Try.prog t e z size bytes) (hgd : o.guard = none) (s x : Operand)
    (ho : o.op = .call { callee := .builtin .append, args := #[s, x], argTypes := #[t, t] })
    (base : Nat) {g0 c0 n m c : Nat} {xs news : List Value} {xa : Option Addr} (hown : w.ownsRow base e size (.slice (some ⟨g0, 0, none⟩) n c0) n xs) (hs : a.eval s = .slice (some ⟨g0, 0, none⟩) n c0) (hx : a.eval x = .slice xa m c) (hl : news.length = m * size)
    (hnews : ∀ p, xa = some p → ∀ j u, news[j]? = some u → w.cell? (p.add j) = some u) (hnone : xa = none → m = 0) (h1 : ∀ u ∈ news, u.oneCell' = true) (hn : n + m ≤ maxLen) (hby : (n + m) * bytes ≤ 140737488355328) (hbase : base ≤ w.heap.size)
    (h : ∀ g c' w', w'.ownsRow base e size (.slice (some ⟨g, 0, none⟩) (n + m) c') (n + m) (xs ++ news) → w.grownBy w' (some g0) → base ≤ g → n + m ≤ c' → wpList Try.prog ops Q rest (a.put o.dst (.slice (some ⟨g, 0, none⟩) (n + m) c')) w') : wpList Try.prog ops Q (o :: rest) a w := by
  obtain ⟨i, hi, hz0, hz1, hz2⟩ := info_parts E.info
  cases xa with
  | none =>
    obtain rfl := hnone rfl
    obtain rfl : news = [] := List.eq_nil_of_length_eq_zero (by simpa using hl)
    refine wpList_plain hgd fun K hK => ?_
    have hrun := run_append_none w base t o.type e i size c E.und hi _ n xs hown
    unfold Oper.wp
    simp [execOp, ho, resolve, invoke, builtin, hs, hx, hrun, Result.andThen]
    obtain ⟨hb, hc⟩ : base ≤ g0 ∧ n ≤ c0 := by
      rcases hown.2 with ⟨e, -⟩ | ⟨g', cap, cur, e, hb, -, hc, -⟩
      · cases e
      · cases e; exact ⟨hb, hc⟩
    exact hK _ _ (h g0 c0 w (by simpa using hown) ⟨rfl, rfl, rfl, Nat.le_refl _, fun _ _ _ => rfl⟩ hb hc)
  | some p =>
    refine wpList_append_own w hgd s x t ho base e i z size bytes E.und hi hz0 hz1 hz2 E.zs E.pos _ n xs hs hown p m c news hx hl (hnews p rfl) h1 hn hby hbase ?_
    intro v' w' h2 h3 h4
    rcases h2.2 with ⟨e, -⟩ | ⟨g, cap, cur, rfl, hb, -, hc, -⟩
    · cases (h4.1 e).1
    · exact h g cap w' h2 h3 hb hc
theorem own_emptyN {e size : Nat} (W : World) (base : Nat) (h : base ≤ W.heap.size) : (W.alloc (.cells #[] e)).ownsRow base e size (.slice (some ⟨W.heap.size, 0, none⟩) 0 0) 0 [] :=
  ⟨by simp, .inr ⟨W.heap.size, 0, #[], rfl, h, heap_alloc_new W _, Nat.le_refl _, Nat.zero_le _, by simp, by simp⟩⟩
/-- The cells of four, of which those of step k are a, b, d, e. -/
def RowK (cs xs : List Value) (k : Nat) (a b d e : Value) : Prop := (∀ j, j / 4 ≠ k → xs[j]? = cs[j]?) ∧ xs[k * 4]? = some a ∧ xs[k * 4 + 1]? = some b ∧ xs[k * 4 + 2]? = some d ∧ xs[k * 4 + 3]? = some e
theorem set_at {xs : List Value} {i : Nat} {v u : Value} (h : xs[i]? = some v) : (xs.set i u)[i]? = some u := by
  have hi : i < xs.length := by
    refine Classical.byContradiction fun hc => ?_
    rw [List.getElem?_eq_none (by omega)] at h; cases h
  exact List.getElem?_set_self hi
theorem RowK.set0 {cs xs : List Value} {k : Nat} {a b d e : Value} (h : RowK cs xs k a b d e) (u : Value) : RowK cs (xs.set (k * 4) u) k u b d e :=
  ⟨fun j hj => by rw [List.getElem?_set_ne (by omega)]; exact h.1 j hj, set_at h.2.1, by rw [List.getElem?_set_ne (by omega)]; exact h.2.2.1, by rw [List.getElem?_set_ne (by omega)]; exact h.2.2.2.1, by rw [List.getElem?_set_ne (by omega)]; exact h.2.2.2.2⟩
theorem RowK.set1 {cs xs : List Value} {k : Nat} {a b d e : Value} (h : RowK cs xs k a b d e) (u : Value) : RowK cs (xs.set (k * 4 + 1) u) k a u d e :=
  ⟨fun j hj => by rw [List.getElem?_set_ne (by omega)]; exact h.1 j hj, by rw [List.getElem?_set_ne (by omega)]; exact h.2.1, set_at h.2.2.1, by rw [List.getElem?_set_ne (by omega)]; exact h.2.2.2.1, by rw [List.getElem?_set_ne (by omega)]; exact h.2.2.2.2⟩
theorem RowK.set2 {cs xs : List Value} {k : Nat} {a b d e : Value} (h : RowK cs xs k a b d e) (u : Value) : RowK cs (xs.set (k * 4 + 2) u) k a b u e :=
  ⟨fun j hj => by rw [List.getElem?_set_ne (by omega)]; exact h.1 j hj, by rw [List.getElem?_set_ne (by omega)]; exact h.2.1, by rw [List.getElem?_set_ne (by omega)]; exact h.2.2.1, set_at h.2.2.2.1, by rw [List.getElem?_set_ne (by omega)]; exact h.2.2.2.2⟩
theorem RowK.set3 {cs xs : List Value} {k : Nat} {a b d e : Value} (h : RowK cs xs k a b d e) (u : Value) : RowK cs (xs.set (k * 4 + 3) u) k a b d u :=
  ⟨fun j hj => by rw [List.getElem?_set_ne (by omega)]; exact h.1 j hj, by rw [List.getElem?_set_ne (by omega)]; exact h.2.1, by rw [List.getElem?_set_ne (by omega)]; exact h.2.2.1, by rw [List.getElem?_set_ne (by omega)]; exact h.2.2.2.1, set_at h.2.2.2.2⟩
/-- A copy of steps in block g, of which step k is changed. -/
structure Bt (w W : World) (l : List StepD) (cs : List Value) (g c k : Nat) (a b d e : Value) (bx : Array Value) : Prop where
  f : FlatC 4 StepCs w cs l
  bel : Below w.heap.size w W
  own : ∃ xs, W.ownsRow (w.heap.size + 1) 80 4 (.slice (some ⟨g, 0, none⟩) l.length c) l.length xs ∧ RowK cs xs k a b d e
  box : Blk W w.heap.size bx 61
  ge : w.heap.size + 1 ≤ g
theorem own_blk {W : World} {base e size g n c : Nat} {xs : List Value} (h : W.ownsRow base e size (.slice (some ⟨g, 0, none⟩) n c) n xs) : ∃ cur, Blk W g cur e ∧ base ≤ g ∧ n ≤ c ∧ c ≤ maxLen := by
  rcases h.2 with ⟨e, -⟩ | ⟨g', cap, cur, e, hb, hg, hc, hm, -⟩
  · cases e
  · cases e; exact ⟨cur, hg, hb, hc, hm⟩
theorem own_cellN {W : World} {base e size g n c i : Nat} {xs : List Value} {u : Value} (h : W.ownsRow base e size (.slice (some ⟨g, 0, none⟩) n c) n xs) (hi : xs[i]? = some u) : W.cell? ⟨g, i, none⟩ = some u := by
  have := h.cells rfl i u hi
  rw [add_zero_off] at this
  exact this
theorem Bt.lt {w W : World} {l : List StepD} {cs : List Value} {g c k : Nat} {a b d e : Value} {bx : Array Value} (h : Bt w W l cs g c k a b d e bx) : g < W.heap.size := by
  obtain ⟨xs, h1, -⟩ := h.own
  obtain ⟨cur, h2, -⟩ := own_blk h1
  exact h2.lt
theorem Bt.cells {w W : World} {l : List StepD} {cs : List Value} {g c k : Nat} {a b d e : Value} {bx : Array Value} (h : Bt w W l cs g c k a b d e bx) :
    W.cell? ⟨g, k * 4, none⟩ = some a ∧ W.cell? ⟨g, k * 4 + 1, none⟩ = some b ∧ W.cell? ⟨g, k * 4 + 2, none⟩ = some d ∧ W.cell? ⟨g, k * 4 + 3, none⟩ = some e ∧ ∀ i, W.frozen? ⟨g, i, none⟩ = false := by
  obtain ⟨xs, h1, h2⟩ := h.own
  obtain ⟨cur, h3, -⟩ := own_blk h1
  exact ⟨own_cellN h1 h2.2.1, own_cellN h1 h2.2.2.1, own_cellN h1 h2.2.2.2.1, own_cellN h1 h2.2.2.2.2, h3.frozen⟩
theorem Bt.below {w W W' : World} {l : List StepD} {cs : List Value} {g c k : Nat} {a b d e : Value} {bx : Array Value} (h : Bt w W l cs g c k a b d e bx) (hB : Below W.heap.size W W') : Bt w W' l cs g c k a b d e bx := by
  obtain ⟨xs, h1, h2⟩ := h.own
  exact ⟨h.f, h.bel.trans (hB.mono h.bel.size), ⟨xs, owned_below h1 hB, h2⟩, h.box.below hB h.box.lt, h.ge⟩
theorem Bt.put {w W : World} {l : List StepD} {cs : List Value} {g c k : Nat} {a b d e : Value} {bx : Array Value} (h : Bt w W l cs g c k a b d e bx) (i : Nat) (u : Value) {a' b' d' e' : Value} (hr : ∀ xs, RowK cs xs k a b d e → RowK cs (xs.set i u) k a' b' d' e') : Bt w (W.setCell ⟨g, i, none⟩ u) l cs g c k a' b' d' e' bx := by
  obtain ⟨xs, h1, h2⟩ := h.own
  exact ⟨h.f, h.bel.setCell (by have := h.ge; simp; omega) _, ⟨_, (h1.stored i u).1, hr xs h2⟩, h.box.other _ (by have := h.ge; simp; omega), h.ge⟩
theorem Bt.far {w W : World} {l : List StepD} {cs : List Value} {g c k : Nat} {a b d e : Value} {bx : Array Value} (h : Bt w W l cs g c k a b d e bx) {hb : Nat} (h1 : hb ≠ g) (h2 : w.heap.size < hb) (o : Nat) (u : Value) : Bt w (W.setCell ⟨hb, o, none⟩ u) l cs g c k a b d e bx := by
  obtain ⟨xs, h3, h4⟩ := h.own
  exact ⟨h.f, h.bel.setCell (by simp; omega) _, ⟨xs, ownsRow_set_ne h3 (fun q hq e => by cases hq; exact h1 e.symm) o u, h4⟩, h.box.other _ (by simp; omega), h.ge⟩
/-- What a copy with one changed step reads as. -/
theorem Bt.view {w W : World} {l : List StepD} {cs : List Value} {g c k : Nat} {bx : Array Value} {s : StepD} {vw : Value} (h : Bt w W l cs g c k (.int .i64 s.var) (.int .i64 s.no) (.int .i64 s.yes) vw bx) (hk : k < l.length) (hw : WtsAt W vw s.wts) :
    StepsAt W (.slice (some ⟨g, 0, none⟩) l.length c) (l.set k s) := by
  obtain ⟨xs, h1, h2, h3, h4, h5, h6⟩ := h.own
  obtain ⟨cur, -, -, hc1, hc2⟩ := own_blk h1
  refine ⟨some ⟨g, 0, none⟩, c, by rw [List.length_set], by rw [List.length_set]; exact hc1, hc2, fun _ => ⟨g, 0, rfl, fun j y hj => ?_⟩⟩
  rw [List.getElem?_set] at hj
  by_cases e : k = j
  · subst e
    rw [if_pos rfl, if_pos hk] at hj
    cases hj
    refine ⟨_, rfl, fun i u hi => ?_, ⟨vw, rfl, hw⟩⟩
    rw [Nat.zero_add]
    match i, hi with
    | 0, hi => cases hi; exact own_cellN h1 h3
    | 1, hi => cases hi; exact own_cellN h1 h4
    | 2, hi => cases hi; exact own_cellN h1 h5
    | 3, hi => cases hi; exact own_cellN h1 h6
    | i + 4, hi => simp at hi
  · rw [if_neg e] at hj
    obtain ⟨ds, d1, d2, d3⟩ := h.f.get j y hj
    refine ⟨ds, d1, fun i u hi => ?_, d3.below h.bel⟩
    have hi4 : i < 4 := by
      refine Classical.byContradiction fun hc => ?_
      rw [List.getElem?_eq_none (by omega)] at hi; cases hi
    rw [Nat.zero_add]
    exact own_cellN h1 ((h2 _ (by omega)).trans (d2 i u hi))
end Go.Proofs.Ytblmpmapcdpaiaa
end
section
/- The reference's Bent. -/
namespace Go.Proofs.Ytblmpmapcdpaiaa
open Go.RowKit Lib
attribute [local irreducible] wpStill

def st0 : StepD := ⟨0, 0, 0, []⟩
/-- Step k with something changed. -/
def bentS (s : StepD) (n : Nat) (x1 x2 x3 : Int) : StepD :=
  if pickI x1 9 = 0 then ⟨pickI x2 9 - 1, s.no, s.yes, s.wts⟩
  else if pickI x1 9 = 1 then ⟨s.var, pickI x2 ((n : Int) + 1), s.yes, s.wts⟩
  else if pickI x1 9 = 2 then ⟨s.var, s.no, pickI x2 ((n : Int) + 1), s.wts⟩
  else if pickI x1 9 = 3 then ⟨s.var, s.no, s.yes, s.wts.set 0 ⟨pickI x2 9, (s.wts.getD 0 wt0).times⟩⟩
  else if pickI x1 9 = 4 then ⟨s.var, s.no, s.yes, s.wts.set 0 ⟨(s.wts.getD 0 wt0).row, pickI x2 1003 - 1⟩⟩
  else if pickI x1 9 = 5 then ⟨s.var, s.no, s.yes, s.wts ++ [⟨pickI x2 10, 1 + pickI x3 5⟩]⟩
  else if pickI x1 9 = 7 then ⟨s.var, s.yes, s.no, s.wts⟩
  else s
/-- A proof in which something is changed, as integers say. -/
def bentD (l : List StepD) (x0 x1 x2 x3 : Int) : List StepD :=
  if l.length = 0 then [] else
  if pickI x1 9 = 6 then l.take ((pickI x2 (l.length : Int)).toNat + 1)
  else l.set (pickI x0 (l.length : Int)).toNat (bentS (l.getD (pickI x0 (l.length : Int)).toNat st0) l.length x1 x2 x3)
theorem steps_take {W : World} {a : Option Addr} {len c m : Nat} {l : List StepD} (h : StepsAt W (.slice a len c) l) (hm : m ≤ l.length) : StepsAt W (.slice a m c) (l.take m) := by
  obtain ⟨a', cap', e, h2, h3, h4⟩ := h
  cases e
  have hl : (l.take m).length = m := by rw [List.length_take]; omega
  refine ⟨a, c, by rw [hl], by rw [hl]; omega, h3, fun hp => ?_⟩
  rw [hl] at hp
  obtain ⟨b, off, rfl, h5⟩ := h4 (by omega)
  refine ⟨b, off, rfl, fun j y hj => h5 j y ?_⟩
  rw [List.getElem?_take] at hj
  split at hj
  · exact hj
  · cases hj
theorem wts_flat_one {W : World} : ∀ {l : List WtD} {cs : List Value}, FlatC 2 WtC W cs l → ∀ u ∈ cs, u.oneCell' = true := by
  intro l
  induction l with
  | nil => intro cs h u hu; rw [show cs = [] from h] at hu; cases hu
  | cons y l ih =>
    rintro cs ⟨ds, rest, rfl, -, h2, h⟩ u hu
    rcases List.mem_append.1 hu with h3 | h3
    · rw [show ds = _ from h2] at h3
      simp at h3
      rcases h3 with rfl | rfl <;> rfl
    · exact ih h u h3
theorem steps_flat_one {W : World} : ∀ {l : List StepD} {cs : List Value}, FlatC 4 StepCs W cs l → ∀ u ∈ cs, u.oneCell' = true := by
  intro l
  induction l with
  | nil => intro cs h u hu; rw [show cs = [] from h] at hu; cases hu
  | cons y l ih =>
    rintro cs ⟨ds, rest, rfl, -, ⟨vw, e, h2⟩, h⟩ u hu
    rcases List.mem_append.1 hu with h3 | h3
    · obtain ⟨a, c, rfl, -, -⟩ := h2.len
      rw [e] at h3
      simp at h3
      rcases h3 with rfl | rfl | rfl | rfl <;> rfl
    · exact ih h u h3
theorem step_pick {ops : Array Oper} {o : Oper} {a : Act} {w : World} {K : Act → World → Prop} {Q : Exit → Act → World → Prop} {E : Prop}
    (hg : o.guard = none) (s x : Operand) (hop : o.op = Op.call { callee := .value (.func 80), args := #[s, x], argTypes := #[3, 3] })
    {c n : Int} (hs : a.eval s = .int .i64 c) (hx : a.eval x = .int .i64 n) (hc : InR c) (hn : 0 < n) (hn2 : n ≤ 9223372036854775807)
    (hK : K (a.put o.dst (.int .i64 (pickI c n))) w) : if Region.wanted o (yielded ops a.tmps) = true then Oper.wp Try.prog o a w K Q else E := by
  have hw : Region.wanted o (yielded ops a.tmps) = true := by simp [Region.wanted, hg]
  rw [if_pos hw]
  have hrun : (execOp a.eval o).run Try.prog w = .ok (.enter 80 #[.int .i64 c, .int .i64 n]) w := by
    have hf : a.eval (.func 80) = .func (.func 80) #[] #[] := rfl
    have hn1 : ¬ (Try.f80.name = "runtime.NumGoroutine") := by decide
    have hb1 : ¬ (Try.f80.body = none) := by intro h; cases h
    simp [execOp, hop, resolve, invoke, hs, hx, hf, Deferred.ofValue, callFunc, Result.andThen]
    rw [if_neg hn1, if_neg hb1]
  unfold Oper.wp
  rw [hrun, Oper.upon_enter]
  refine (pick80 c n w hc hn hn2).mono ?_
  rintro e w' ⟨rfl, rfl⟩
  exact hK
theorem step_appN {t e : TypeId} {z : Value} {size bytes : Nat} {ops : Array Oper} {o : Oper} {a : Act} {w : World} {K : Act → World → Prop} {Q : Exit → Act → World → Prop} {E : Prop} (EE : ElemOK Try.prog t e z size bytes)
    (hg : o.guard = none) (s x : Operand) (hop : o.op = Op.call { callee := Callee.builtin Builtin.append, args := #[s, x], argTypes := #[t, t] })
    (base : Nat) {g0 c0 n m c : Nat} {xs news : List Value} {xa : Option Addr} (hown : w.ownsRow base e size (.slice (some ⟨g0, 0, none⟩) n c0) n xs) (hs : a.eval s = .slice (some ⟨g0, 0, none⟩) n c0) (hx : a.eval x = .slice xa m c) (hl : news.length = m * size)
    (hnews : ∀ p, xa = some p → ∀ j u, news[j]? = some u → w.cell? (p.add j) = some u) (h1 : ∀ u ∈ news, u.oneCell' = true) (hn : n + m ≤ maxLen) (hby : (n + m) * bytes ≤ 140737488355328) (hbase : base ≤ w.heap.size) {p : Addr} (hxa : xa = some p)
    (hK : ∀ g c' w', w'.ownsRow base e size (.slice (some ⟨g, 0, none⟩) (n + m) c') (n + m) (xs ++ news) → w.grownBy w' (some g0) → base ≤ g → n + m ≤ c' → K (a.put o.dst (.slice (some ⟨g, 0, none⟩) (n + m) c')) w') :
    if Region.wanted o (yielded ops a.tmps) = true then Oper.wp Try.prog o a w K Q else E := by
  have hw : Region.wanted o (yielded ops a.tmps) = true := by simp [Region.wanted, hg]
  rw [if_pos hw]
  obtain ⟨i, hi, hz0, hz1, hz2⟩ := info_parts EE.info
  subst hxa
  obtain ⟨v', w', hrun, h2, h3, h4⟩ := run_append_own (P := Try.prog) w base t o.type e i z size bytes EE.und hi hz0 hz1 hz2 EE.zs EE.pos _ n xs hown p m c news hl (hnews p rfl) h1 hn hby hbase
  unfold Oper.wp
  simp [execOp, hop, resolve, invoke, builtin, hs, hx, hrun, Result.andThen]
  rcases h2.2 with ⟨rfl, -⟩ | ⟨g, cap, cur, rfl, hb, -, hc, -⟩
  · cases (h4.1 rfl).1
  · exact hK g cap w' h2 h3 hb hc
theorem Bt.grown {w W W' : World} {l : List StepD} {cs : List Value} {g c k : Nat} {a b d e : Value} {bx : Array Value} (h : Bt w W l cs g c k a b d e bx) {hb : Nat} (hg : W.grownBy W' (some hb)) (h1 : hb ≠ g) (h2 : w.heap.size < hb) : Bt w W' l cs g c k a b d e bx := by
  obtain ⟨xs, h3, h4⟩ := h.own
  exact ⟨h.f, h.bel.grown hg h.bel.size (fun j hj => by cases hj; exact Nat.le_of_lt h2), ⟨xs, h3.kept (row := some hb) hg (.inr (fun e => h1 (Option.some.inj e).symm)), h4⟩, (hg.block _ h.box.lt (fun e => by cases e; omega)).trans h.box, h.ge⟩
theorem wts_own {W w : World} {base h c : Nat} {l : List WtD} {ws : List Value} (ho : W.ownsRow base 82 2 (.slice (some ⟨h, 0, none⟩) l.length c) l.length ws) (hf : FlatC 2 WtC w ws l) : WtsAt W (.slice (some ⟨h, 0, none⟩) l.length c) l := by
  obtain ⟨cur, -, -, hc1, hc2⟩ := own_blk ho
  refine ⟨some ⟨h, 0, none⟩, c, rfl, hc1, hc2, fun _ => ⟨h, 0, rfl, fun j y hj => ?_⟩⟩
  obtain ⟨ds, d1, d2, d3⟩ := hf.get j y hj
  refine ⟨ds, d1, fun i u hi => ?_, d3⟩
  have hi2 : i < 2 := by
    refine Classical.byContradiction fun hc => ?_
    rw [List.getElem?_eq_none (by omega)] at hi; cases hi
  rw [Nat.zero_add]
  exact own_cellN ho (d2 i u hi)
set_option maxRecDepth 100000 in
set_option maxHeartbeats 40000000 in
theorem bent_any (vl : Value) (l : List StepD) (x0 x1 x2 x3 : Int) (w : World) (hl : StepsAt w vl l) (hlen : l.length ≤ 9000) (hws : ∀ s ∈ l, s.wts.length ≤ 1000) (hx0 : InR x0) (hx1 : InR x1) (hx2 : InR x2) (hx3 : InR x3) :
    Calls Try.prog 43 #[vl, .agg #[.int .i64 x0, .int .i64 x1, .int .i64 x2, .int .i64 x3]] w fun e w' => ∃ v', e = .returned v' ∧ StepsAt w' v' (bentD l x0 x1 x2 x3) ∧ Below w.heap.size w w' := by
  obtain ⟨la, lc, rfl, hl1, hl2⟩ := (show SlicesLen vl l.length from hl.len)
  unfold maxLen at hl2
  obtain ⟨cs, hcf, hcc⟩ := StructsOf.flat hl
  have hB0 : Below w.heap.size w (w.alloc (.cells #[.int .i64 x0, .int .i64 x1, .int .i64 x2, .int .i64 x3] 61)) := (Below.refl _ _).alloc (Nat.le_refl _) _
  have hk0 := Blk.new w #[.int .i64 x0, .int .i64 x1, .int .i64 x2, .int .i64 x3] 61
  have hB1 : Below w.heap.size w ((w.alloc (.cells #[.int .i64 x0, .int .i64 x1, .int .i64 x2, .int .i64 x3] 61)).alloc (.cells #[] 80)) := hB0.alloc (by simp) _
  have hnone : la = none → l.length = 0 := fun e => by subst e; rw [StructsOf.none hl]; rfl
  have hnews : ∀ W, Below w.heap.size w W → ∀ p, la = some p → ∀ j u, cs[j]? = some u → W.cell? (p.add j) = some u := fun W hW p hp j u hj => by
    have h3 := hcc p hp j u hj
    subst hp
    have hpos : 0 < l.length := by
      refine Classical.byContradiction fun hc => ?_
      have h0 : cs.length = 0 := by rw [hcf.len]; omega
      rw [List.getElem?_eq_none (by omega)] at hj; cases hj
    obtain ⟨a', c', e, -, -, h4⟩ := hl
    cases e
    obtain ⟨b, off, e, -⟩ := h4 hpos
    cases e
    rw [addr_add] at h3 ⊢
    exact (hW.cell (World.block_lt_of_cell? _ _ h3)).trans h3
  have HS := Lib.hid (And.intro hcf (And.intro hnone (And.intro hnews (And.intro hB0 (And.intro hk0 (And.intro hB1 (hl)))))))
  have hown0 : ((w.alloc (.cells #[.int .i64 x0, .int .i64 x1, .int .i64 x2, .int .i64 x3] 61)).alloc (.cells #[] 80)).ownsRow (w.heap.size + 1) 80 4 (.slice (some ⟨w.heap.size + 1, 0, none⟩) 0 0) 0 [] := by
    have := own_emptyN (e := 80) (size := 4) (w.alloc (.cells #[.int .i64 x0, .int .i64 x1, .int .i64 x2, .int .i64 x3] 61)) (w.heap.size + 1) (by simp)
    simpa using this
  have HO := Lib.hid hown0
  have HWS := Lib.hid hws
  clear hcf hcc hB0 hk0 hB1 hnone hnews hl hown0 hws
  by_cases h0 : l.length = 0
  · have q0 : ((l.length : Int) == 0) = true := by rw [h0]; rfl
    have H0 := Lib.hid h0
    clear h0
    go_enter Try.func43, Try.ntmps43
    go_wp2_with (at_builtin; refine wpList_appN (xa := la) (c := lc) (m := l.length) (news := cs) (g0 := w.heap.size + 1) (c0 := 0) (n := 0) (xs := []) E35 rfl _ _ rfl (w.heap.size + 1) HO.out rfl rfl HS.out.1.len (HS.out.2.2.1 _ HS.out.2.2.2.2.2.1) HS.out.2.1 (steps_flat_one HS.out.1) (by unfold maxLen; omega) (by omega) (by simp) ?_; intro g c w1 hown1 hg1 hgb hnc; rw [show 0 + l.length = l.length from Nat.zero_add _, List.nil_append] at hown1; rw [show 0 + l.length = l.length from Nat.zero_add _]; have hBg : Below (w.heap.size + 1) (w.alloc (.cells #[.int .i64 x0, .int .i64 x1, .int .i64 x2, .int .i64 x3] 61)) w1 := (((Below.refl _ _).alloc (by simp) _).grown hg1 (by simp) (fun j hj => by cases hj; exact Nat.le_refl _)); have hB1 : Below w.heap.size w w1 := HS.out.2.2.2.1.trans (hBg.mono (Nat.le_succ _)); have hbx : Blk w1 w.heap.size #[.int .i64 x0, .int .i64 x1, .int .i64 x2, .int .i64 x3] 61 := HS.out.2.2.2.2.1.below hBg (Nat.lt_succ_self _); have z0 := hbx.cell 0; simp only [List.getElem?_toArray, List.getElem?_cons_zero] at z0; clear hg1)
    go_wp2
    go_ret
    obtain ⟨cur, -, -, hc1, hc2⟩ := own_blk hown1
    refine ⟨_, rfl, ?_, hB1⟩
    rw [show bentD l x0 x1 x2 x3 = [] from by unfold bentD; rw [if_pos H0.out], H0.out]
    exact ⟨_, c, rfl, by simp, hc2, fun h => by simp at h⟩
  · have q0 : ((l.length : Int) == 0) = false := beq_eq_false_iff_ne.2 (by omega)
    have hp0 := pickI_bd x0 (n := (l.length : Int)) (by omega)
    obtain ⟨k, hk⟩ := Int.eq_ofNat_of_zero_le hp0.1
    have hkl : k < l.length := by omega
    have hpos : (0 : Int) < (l.length : Int) := by omega
    have hs := getD_some st0 hkl
    obtain ⟨s, HSS⟩ : ∃ s, Hid (l.getD k st0 = s) := ⟨_, rfl⟩
    rw [HSS.out] at hs
    have HK := Lib.hid hk
    have HBD : Hid (bentD l x0 x1 x2 x3 = if pickI x1 9 = 6 then l.take ((pickI x2 (l.length : Int)).toNat + 1) else l.set k (bentS s l.length x1 x2 x3)) := by
      show bentD l x0 x1 x2 x3 = _
      unfold bentD
      rw [if_neg h0, hk, Int.toNat_natCast, HSS.out]
    obtain ⟨ds, hd1, hd2, vw, rfl, hwt⟩ := HS.out.1.get k s hs
    obtain ⟨wa, wc, rfl, hw1, hw2⟩ := (show SlicesLen vw s.wts.length from hwt.len)
    obtain ⟨ws, hwf, hwc⟩ := StructsOf.flat hwt
    have hwn : wa = none → s.wts.length = 0 := fun e => by subst e; rw [StructsOf.none hwt]; rfl
    have hm1000 := HWS.out s (List.mem_of_getElem? hs)
    have hwnews : ∀ W, Below w.heap.size w W → ∀ p, wa = some p → ∀ j u, ws[j]? = some u → W.cell? (p.add j) = some u := fun W hW p hp j u hj => by
      have h3 := hwc p hp j u hj
      subst hp
      have hpos : 0 < s.wts.length := by
        refine Classical.byContradiction fun hc => ?_
        have h0 : ws.length = 0 := by rw [hwf.len]; omega
        rw [List.getElem?_eq_none (by omega)] at hj; cases hj
      obtain ⟨a', c', e, -, -, h4⟩ := hwt
      cases e
      obtain ⟨b, off, e, -⟩ := h4 hpos
      cases e
      rw [addr_add] at h3 ⊢
      exact (hW.cell (World.block_lt_of_cell? _ _ h3)).trans h3
    have HC := Lib.hid (And.intro (hd2 0 _ rfl) (And.intro (hd2 1 _ rfl) (And.intro (hd2 2 _ rfl) (And.intro (hd2 3 _ rfl) (And.intro hwf (And.intro hwn hwnews))))))
    clear h0 hs hk hp0 hd1 hd2 hwt hwf hwc hwn hwnews
    go_enter Try.func43, Try.ntmps43
    go_wp2_with (at_builtin; refine wpList_appN (xa := la) (c := lc) (m := l.length) (news := cs) (g0 := w.heap.size + 1) (c0 := 0) (n := 0) (xs := []) E35 rfl _ _ rfl (w.heap.size + 1) HO.out rfl rfl HS.out.1.len (HS.out.2.2.1 _ HS.out.2.2.2.2.2.1) HS.out.2.1 (steps_flat_one HS.out.1) (by unfold maxLen; omega) (by omega) (by simp) ?_; intro g c w1 hown1 hg1 hgb hnc; rw [show 0 + l.length = l.length from Nat.zero_add _, List.nil_append] at hown1; rw [show 0 + l.length = l.length from Nat.zero_add _]; have hBg : Below (w.heap.size + 1) (w.alloc (.cells #[.int .i64 x0, .int .i64 x1, .int .i64 x2, .int .i64 x3] 61)) w1 := (((Below.refl _ _).alloc (by simp) _).grown hg1 (by simp) (fun j hj => by cases hj; exact Nat.le_refl _)); have hB1 : Below w.heap.size w w1 := HS.out.2.2.2.1.trans (hBg.mono (Nat.le_succ _)); have hbx : Blk w1 w.heap.size #[.int .i64 x0, .int .i64 x1, .int .i64 x2, .int .i64 x3] 61 := HS.out.2.2.2.2.1.below hBg (Nat.lt_succ_self _); have z0 := hbx.cell 0; simp only [List.getElem?_toArray, List.getElem?_cons_zero] at z0; clear hg1)
    have HT : Hid (Bt w w1 l cs g c k (.int .i64 s.var) (.int .i64 s.no) (.int .i64 s.yes) (.slice wa s.wts.length wc) #[.int .i64 x0, .int .i64 x1, .int .i64 x2, .int .i64 x3]) := ⟨HS.out.1, hB1, ⟨cs, hown1, fun _ _ => rfl, HC.out.1, HC.out.2.1, HC.out.2.2.1, HC.out.2.2.2.1⟩, hbx, hgb⟩
    have hgl := HT.out.lt
    go_wp2_with fail
    refine (pick80 _ _ _ hx0 hpos (by omega)).mono ?_
    rintro e w' ⟨rfl, rfl⟩
    rw [HK.out]
    have b3 := HT.out.cells.2.2.2.1
    have bf := HT.out.cells.2.2.2.2 (k * 4 + 3)
    have hki : (0 : Int) ≤ (k : Int) ∧ (k : Int) < (l.length : Int) := by omega
    clear hB1 hown1 hbx hgb z0 hBg
    go_wp2_with (at_builtin; refine wpList_appN (xa := wa) (c := wc) (m := s.wts.length) (news := ws) (g0 := w1.heap.size) (c0 := 0) (n := 0) (xs := []) E78 rfl _ _ rfl w1.heap.size (own_emptyN w1 w1.heap.size (Nat.le_refl _)) rfl rfl HC.out.2.2.2.2.1.len (HC.out.2.2.2.2.2.2 _ (HT.out.bel.alloc HT.out.bel.size _)) HC.out.2.2.2.2.2.1 (wts_flat_one HC.out.2.2.2.2.1) (by unfold maxLen; omega) (by omega) (by simp) ?_; intro h c2 w2 hown2 hg2 hhb hmc; rw [show 0 + s.wts.length = s.wts.length from Nat.zero_add _, List.nil_append] at hown2; rw [show 0 + s.wts.length = s.wts.length from Nat.zero_add _]; have hBh : Below w1.heap.size w1 w2 := (((Below.refl _ _).alloc (by simp) _).grown hg2 (by simp) (fun j hj => by cases hj; exact Nat.le_refl _)); have HT2 := HT.out.below hBh; have b3' := HT2.cells.2.2.2.1; have bf' := HT2.cells.2.2.2.2 (k * 4 + 3); have y1 := HT2.box.cell 1; simp only [List.getElem?_toArray, List.getElem?_cons_succ, List.getElem?_cons_zero] at y1; clear hg2)
    have hne : h ≠ g := by omega
    have hwg : w.heap.size < h := Nat.lt_of_lt_of_le HT.out.box.lt hhb
    have HT3 := HT2.put (k * 4 + 3) (.slice (some ⟨h, 0, none⟩) s.wts.length c2) (fun xs hh => hh.set3 _)
    have own3 := ownsRow_set_ne hown2 (fun q hq e => by cases hq; exact hne e) (k * 4 + 3) (.slice (some ⟨h, 0, none⟩) s.wts.length c2)
    clear b3' bf' y1 HT2 hBh hown2 b3 bf
    generalize w2.setCell ⟨g, k * 4 + 3, none⟩ (.slice (some ⟨h, 0, none⟩) s.wts.length c2) = W at HT3 own3 ⊢
    have hwh := HC.out.2.2.2.2.1
    have HT4 := Lib.hid (And.intro HT3 (And.intro own3 hwh))
    obtain ⟨c0, c1, c2', c3, cf⟩ := HT3.cells
    have z0 := HT3.box.cell 0
    have z1 := HT3.box.cell 1
    have z2 := HT3.box.cell 2
    have z3 := HT3.box.cell 3
    simp only [List.getElem?_toArray, List.getElem?_cons_succ, List.getElem?_cons_zero] at z0 z1 z2 z3
    have cf0 := cf (k * 4)
    have cf1 := cf (k * 4 + 1)
    have cf2 := cf (k * 4 + 2)
    have cf3 := cf (k * 4 + 3)
    have hHb := own_blk own3
    clear HT3 own3 hwh cf HT
    refine (pick80 _ _ _ hx1 (by omega) (by omega)).mono ?_
    rintro e w' ⟨rfl, rfl⟩
    have hpb := pickI_bd x1 (n := 9) (by omega)
    obtain ⟨pv, HPV⟩ : ∃ pv, Hid (pickI x1 9 = pv) := ⟨_, rfl⟩
    rw [HPV.out] at hpb ⊢
    have hpv : pv = 0 ∨ pv = 1 ∨ pv = 2 ∨ pv = 3 ∨ pv = 4 ∨ pv = 5 ∨ pv = 6 ∨ pv = 7 ∨ pv = 8 := by omega
    clear hpb
    rcases hpv with rfl | rfl | rfl | rfl | rfl | rfl | rfl | rfl | rfl
    · have hb2 := pickI_bd x2 (n := 9) (by omega)
      have hwr : IntKind.i64.wrap (pickI x2 9 - 1) = pickI x2 9 - 1 := wrapS _ (by omega) (by omega)
      clear c1 c2' c3 z0 z1 z3 cf1 cf2 cf3
      go_wp2_with fail
      refine (pick80 _ _ _ hx2 (by omega) (by omega)).mono ?_
      rintro e w' ⟨rfl, rfl⟩
      go_wp2
      go_ret
      have HTx := HT4.out.1.put (k * 4) (.int .i64 (pickI x2 9 - 1)) (fun xs hh => hh.set0 _)
      have hox := ownsRow_set_ne HT4.out.2.1 (fun q hq e => by cases hq; exact hne e) (k * 4) (.int .i64 (pickI x2 9 - 1))
      refine ⟨_, rfl, ?_, (HTx).bel⟩
      rw [HBD.out, if_neg (by rw [HPV.out]; decide), show bentS s l.length x1 x2 x3 = ⟨pickI x2 9 - 1, s.no, s.yes, s.wts⟩ from by unfold bentS; rw [HPV.out]; rfl]
      exact (HTx).view (s := ⟨pickI x2 9 - 1, s.no, s.yes, s.wts⟩) hkl (wts_own hox HT4.out.2.2)
    · have hwr : IntKind.i64.wrap ((l.length : Int) + 1) = (l.length : Int) + 1 := wrapS _ (by omega) (by omega)
      clear c0 z0 z1 z3 c3
      go_wp2_with fail
      refine (pick80 _ _ _ hx2 (by omega) (by omega)).mono ?_
      rintro e w' ⟨rfl, rfl⟩
      go_wp2
      go_ret
      have HTx := HT4.out.1.put (k * 4 + 1) (.int .i64 (pickI x2 ((l.length : Int) + 1))) (fun xs hh => hh.set1 _)
      have hox := ownsRow_set_ne HT4.out.2.1 (fun q hq e => by cases hq; exact hne e) (k * 4 + 1) (.int .i64 (pickI x2 ((l.length : Int) + 1)))
      refine ⟨_, rfl, ?_, (HTx).bel⟩
      rw [HBD.out, if_neg (by rw [HPV.out]; decide), show bentS s l.length x1 x2 x3 = ⟨s.var, pickI x2 ((l.length : Int) + 1), s.yes, s.wts⟩ from by unfold bentS; rw [HPV.out]; rfl]
      exact (HTx).view (s := ⟨s.var, pickI x2 ((l.length : Int) + 1), s.yes, s.wts⟩) hkl (wts_own hox HT4.out.2.2)
    · have hwr : IntKind.i64.wrap ((l.length : Int) + 1) = (l.length : Int) + 1 := wrapS _ (by omega) (by omega)
      clear c0 z0 z1 z3 c3
      go_wp2_with fail
      refine (pick80 _ _ _ hx2 (by omega) (by omega)).mono ?_
      rintro e w' ⟨rfl, rfl⟩
      go_wp2
      go_ret
      have HTx := HT4.out.1.put (k * 4 + 2) (.int .i64 (pickI x2 ((l.length : Int) + 1))) (fun xs hh => hh.set2 _)
      have hox := ownsRow_set_ne HT4.out.2.1 (fun q hq e => by cases hq; exact hne e) (k * 4 + 2) (.int .i64 (pickI x2 ((l.length : Int) + 1)))
      refine ⟨_, rfl, ?_, (HTx).bel⟩
      rw [HBD.out, if_neg (by rw [HPV.out]; decide), show bentS s l.length x1 x2 x3 = ⟨s.var, s.no, pickI x2 ((l.length : Int) + 1), s.wts⟩ from by unfold bentS; rw [HPV.out]; rfl]
      exact (HTx).view (s := ⟨s.var, s.no, pickI x2 ((l.length : Int) + 1), s.wts⟩) hkl (wts_own hox HT4.out.2.2)
    · clear c0 c1 c2' z0 z1 z3 cf0 cf1 cf2
      by_cases hm0 : 0 < s.wts.length
      · obtain ⟨y, ys, hys⟩ : ∃ y ys, s.wts = y :: ys := by
          cases hq : s.wts with
          | nil => rw [hq] at hm0; simp at hm0
          | cons y ys => exact ⟨y, ys, rfl⟩
        have hwsf := HT4.out.2.2
        rw [hys] at hwsf
        obtain ⟨ds, rest, hws, -, rfl, hfr⟩ := hwsf
        have hi0 : ws[0]? = some (.int .i64 y.row) := by rw [hws]; rfl
        have hcell := own_cellN HT4.out.2.1 hi0
        obtain ⟨cur, hblk, -⟩ := hHb
        have hfz := hblk.frozen 0
        have hm1 : (0 : Int) < (s.wts.length : Int) := by omega
        have q1 : decide ((0 : Int) < (s.wts.length : Int)) = true := decide_eq_true hm1
        have q2 : decide (0 < s.wts.length) = true := decide_eq_true hm0

        have HYS := Lib.hid (And.intro hys (And.intro hws hfr))
        have hpk := Lib.hid (fun V => pick80 x2 9 V hx2 (by omega) (by omega))
        clear hys hws hfr hi0 hblk
        go_wp2_with fail
        go_still_tail 9, (by kernel_rfl)
        still_call ((hpk.out _).mono fun e w' h => ⟨h.1, h.2.symm⟩)
        repeat still_step
        refine wpStill_nil ?_
        change wpList _ _ _ _ _ W.drew
        have HTd := HT4.out.1.below (Below.refl _ _).drew
        have hod := owned_below HT4.out.2.1 (Below.refl W.heap.size W).drew
        replace hcell : W.drew.cell? _ = _ := hcell
        replace hfz : W.drew.frozen? _ = _ := hfz
        go_wp2
        go_ret
        have HTx := HTd.far hne hwg 0 (.int .i64 (pickI x2 9))
        have hox := (hod.stored 0 (.int .i64 (pickI x2 9))).1
        refine ⟨_, rfl, ?_, HTx.bel⟩
        rw [HBD.out, if_neg (by rw [HPV.out]; decide), show bentS s l.length x1 x2 x3 = ⟨s.var, s.no, s.yes, s.wts.set 0 ⟨pickI x2 9, (s.wts.getD 0 wt0).times⟩⟩ from by unfold bentS; rw [HPV.out]; rfl]
        refine HTx.view (s := ⟨s.var, s.no, s.yes, s.wts.set 0 ⟨pickI x2 9, (s.wts.getD 0 wt0).times⟩⟩) hkl ?_
        have hlen : (s.wts.set 0 ⟨pickI x2 9, (s.wts.getD 0 wt0).times⟩).length = s.wts.length := List.length_set
        rw [← hlen]
        rw [← hlen] at hox
        refine wts_own (w := w) hox ?_
        rw [HYS.out.1, HYS.out.2.1]
        exact ⟨_, rest, rfl, rfl, rfl, HYS.out.2.2⟩
      · have hm1 : s.wts.length = 0 := by omega
        have q1 : decide ((0 : Int) < (s.wts.length : Int)) = false := decide_eq_false (by omega)
        have q2 : decide (0 < s.wts.length) = false := decide_eq_false (by omega)
        have HM0 := Lib.hid hm1
        clear hm0 hm1
        go_wp2
        go_ret
        refine ⟨_, rfl, ?_, HT4.out.1.bel⟩
        have hnil : s.wts = [] := List.eq_nil_of_length_eq_zero HM0.out
        rw [HBD.out, if_neg (by rw [HPV.out]; decide), show bentS s l.length x1 x2 x3 = s from by unfold bentS; rw [HPV.out]; obtain ⟨sv, sn, sy, sw⟩ := s; simp only at hnil; subst hnil; rfl]
        exact HT4.out.1.view hkl (wts_own HT4.out.2.1 HT4.out.2.2)
    · clear c0 c1 c2' z0 z1 z3 cf0 cf1 cf2
      by_cases hm0 : 0 < s.wts.length
      · obtain ⟨y, ys, hys⟩ : ∃ y ys, s.wts = y :: ys := by
          cases hq : s.wts with
          | nil => rw [hq] at hm0; simp at hm0
          | cons y ys => exact ⟨y, ys, rfl⟩
        have hwsf := HT4.out.2.2
        rw [hys] at hwsf
        obtain ⟨ds, rest, hws, -, rfl, hfr⟩ := hwsf
        have hi0 : ws[1]? = some (.int .i64 y.times) := by rw [hws]; rfl
        have hcell := own_cellN HT4.out.2.1 hi0
        obtain ⟨cur, hblk, -⟩ := hHb
        have hfz := hblk.frozen 1
        have hm1 : (0 : Int) < (s.wts.length : Int) := by omega
        have q1 : decide ((0 : Int) < (s.wts.length : Int)) = true := decide_eq_true hm1
        have q2 : decide (0 < s.wts.length) = true := decide_eq_true hm0
        have hb2 := pickI_bd x2 (n := 1003) (by omega)
        have hwr : IntKind.i64.wrap (pickI x2 1003 - 1) = pickI x2 1003 - 1 := wrapS _ (by omega) (by omega)
        have HYS := Lib.hid (And.intro hys (And.intro hws hfr))
        have hpk := Lib.hid (fun V => pick80 x2 1003 V hx2 (by omega) (by omega))
        clear hys hws hfr hi0 hblk
        go_wp2_with fail
        go_still_tail 10, (by kernel_rfl)
        still_call ((hpk.out _).mono fun e w' h => ⟨h.1, h.2.symm⟩)
        repeat still_step
        refine wpStill_nil ?_
        change wpList _ _ _ _ _ W.drew
        have HTd := HT4.out.1.below (Below.refl _ _).drew
        have hod := owned_below HT4.out.2.1 (Below.refl W.heap.size W).drew
        replace hcell : W.drew.cell? _ = _ := hcell
        replace hfz : W.drew.frozen? _ = _ := hfz
        go_wp2
        go_ret
        have HTx := HTd.far hne hwg 1 (.int .i64 (pickI x2 1003 - 1))
        have hox := (hod.stored 1 (.int .i64 (pickI x2 1003 - 1))).1
        refine ⟨_, rfl, ?_, HTx.bel⟩
        rw [HBD.out, if_neg (by rw [HPV.out]; decide), show bentS s l.length x1 x2 x3 = ⟨s.var, s.no, s.yes, s.wts.set 0 ⟨(s.wts.getD 0 wt0).row, pickI x2 1003 - 1⟩⟩ from by unfold bentS; rw [HPV.out]; rfl]
        refine HTx.view (s := ⟨s.var, s.no, s.yes, s.wts.set 0 ⟨(s.wts.getD 0 wt0).row, pickI x2 1003 - 1⟩⟩) hkl ?_
        have hlen : (s.wts.set 0 ⟨(s.wts.getD 0 wt0).row, pickI x2 1003 - 1⟩).length = s.wts.length := List.length_set
        rw [← hlen]
        rw [← hlen] at hox
        refine wts_own (w := w) hox ?_
        rw [HYS.out.1, HYS.out.2.1]
        exact ⟨_, rest, rfl, rfl, rfl, HYS.out.2.2⟩
      · have hm1 : s.wts.length = 0 := by omega
        have q1 : decide ((0 : Int) < (s.wts.length : Int)) = false := decide_eq_false (by omega)
        have q2 : decide (0 < s.wts.length) = false := decide_eq_false (by omega)
        have HM0 := Lib.hid hm1
        clear hm0 hm1
        go_wp2
        go_ret
        refine ⟨_, rfl, ?_, HT4.out.1.bel⟩
        have hnil : s.wts = [] := List.eq_nil_of_length_eq_zero HM0.out
        rw [HBD.out, if_neg (by rw [HPV.out]; decide), show bentS s l.length x1 x2 x3 = s from by unfold bentS; rw [HPV.out]; obtain ⟨sv, sn, sy, sw⟩ := s; simp only at hnil; subst hnil; rfl]
        exact HT4.out.1.view hkl (wts_own HT4.out.2.1 HT4.out.2.2)
    · have hb2 := pickI_bd x2 (n := 10) (by omega)
      have hb3 := pickI_bd x3 (n := 5) (by omega)
      have hwr : IntKind.i64.wrap (1 + pickI x3 5) = 1 + pickI x3 5 := wrapS _ (by omega) (by omega)
      have hpk := Lib.hid (fun V => pick80 x2 10 V hx2 (by omega) (by omega))
      have hpk3 := Lib.hid (fun V => pick80 x3 5 V hx3 (by omega) (by omega))
      have hW1 : w1.heap.size ≤ W.heap.size := by
        obtain ⟨cur, hb, hb1, -⟩ := hHb
        have := hb.lt
        omega
      have HTd := HT4.out.1.below (Below.refl W.heap.size W).drew
      have hod := owned_below HT4.out.2.1 (Below.refl W.heap.size W).drew
      have HTa := HT4.out.1.below ((Below.refl W.heap.size W).alloc (Nat.le_refl _) (.cells #[.int .i64 (pickI x2 10), .int .i64 (1 + pickI x3 5)] 82)).drew
      have hoa := owned_below HT4.out.2.1 ((Below.refl W.heap.size W).alloc (Nat.le_refl _) (.cells #[.int .i64 (pickI x2 10), .int .i64 (1 + pickI x3 5)] 82)).drew
      have hnb : Blk (W.alloc (.cells #[.int .i64 (pickI x2 10), .int .i64 (1 + pickI x3 5)] 82)).drew W.heap.size #[.int .i64 (pickI x2 10), .int .i64 (1 + pickI x3 5)] 82 := Blk.new W _ 82
      have hd3 := HTd.cells.2.2.2.1
      have ha3 := HTa.cells.2.2.2.1
      have e2 := (HTd.box).cell 2
      have e3 := (HTd.box).cell 3
      have f2 := (HTa.box).cell 2
      have f3 := (HTa.box).cell 3
      simp only [List.getElem?_toArray, List.getElem?_cons_succ, List.getElem?_cons_zero] at e2 e3 f2 f3
      have HZ : Hid (∀ V : World, Blk V w.heap.size #[.int .i64 x0, .int .i64 x1, .int .i64 x2, .int .i64 x3] 61 → V.cell? ⟨w.heap.size, 2, none⟩ = some (.int .i64 x2) ∧ V.cell? ⟨w.heap.size, 3, none⟩ = some (.int .i64 x3)) := fun V hV => ⟨hV.cell 2, hV.cell 3⟩
      have HG := Lib.hid (And.intro HTd (And.intro hod (And.intro HTa (And.intro hoa hnb))))
      have hdl : g < W.drew.heap.size := HTd.lt
      have hgw := HTd.ge
      clear c0 c1 c2' c3 z0 z1 z2 z3 cf0 cf1 cf2 hb2 hb3 HTd hod HTa hoa hnb hHb
      go_wp2_with fail
      go_region_law (first | (refine step_pick rfl (.tmp 107) (.const (.int .i64 10)) rfl rfl rfl hx2 (by omega) (by omega) ?_) | (refine step_pick rfl (.tmp 110) (.const (.int .i64 5)) rfl rfl rfl hx3 (by omega) (by omega) ?_) | (refine step_appN E78 rfl (.tmp 105) (.tmp 114) rfl w1.heap.size (m := 1) (c := 1) (xa := some ⟨W.heap.size, 0, none⟩) (news := [.int .i64 (pickI x2 10), .int .i64 (1 + pickI x3 5)]) HG.out.2.2.2.1 rfl rfl rfl (fun p hp j u hj => by cases hp; rw [addr_add, Nat.zero_add]; exact (HG.out.2.2.2.2.cell j).trans (by rw [List.getElem?_toArray]; exact hj)) (fun u hu => by simp at hu; rcases hu with rfl | rfl <;> rfl) (by unfold maxLen; omega) (by omega) (by simp; omega) rfl ?_; intro h57 c57 w57 ho57 hg57 hb57 hc57; have hx57 := HG.out.2.2.1.grown hg57 hne hwg; have hz57 := hx57.cells.2.2.2.1; have hf57 := hx57.cells.2.2.2.2 (k * 4 + 3); have hn57 : h57 ≠ g := by omega))
      all_goals (
        go_wp2
        go_ret
        have HTx := (hx57.put (k * 4 + 3) (.slice (some ⟨h57, 0, none⟩) (s.wts.length + 1) c57) (fun xs hh => hh.set3 _))
        have hox := ownsRow_set_ne ho57 (fun q hq e => by cases hq; exact hn57 e) (k * 4 + 3) (.slice (some ⟨h57, 0, none⟩) (s.wts.length + 1) c57)
        refine ⟨_, rfl, ?_, HTx.bel⟩
        rw [HBD.out, if_neg (by rw [HPV.out]; decide), show bentS s l.length x1 x2 x3 = ⟨s.var, s.no, s.yes, s.wts ++ [⟨pickI x2 10, 1 + pickI x3 5⟩]⟩ from by unfold bentS; rw [HPV.out]; rfl]
        refine HTx.view (s := ⟨s.var, s.no, s.yes, s.wts ++ [⟨pickI x2 10, 1 + pickI x3 5⟩]⟩) hkl ?_
        have hlen : (s.wts ++ [(⟨pickI x2 10, 1 + pickI x3 5⟩ : WtD)]).length = s.wts.length + 1 := by simp
        rw [← hlen]
        rw [← hlen] at hox
        exact wts_own (w := w) hox (HT4.out.2.2.app ⟨_, [], (List.append_nil _).symm, rfl, rfl, rfl⟩))
    · have hb2 := pickI_bd x2 (n := (l.length : Int)) (by omega)
      obtain ⟨p, hp⟩ := Int.eq_ofNat_of_zero_le hb2.1
      rw [hp] at hb2
      have hpl : p < l.length := by omega
      have hwr : IntKind.i64.wrap ((p : Int) + 1) = (p : Int) + 1 := wrapS _ (by omega) (by omega)
      have hlc : l.length ≤ c := by
        obtain ⟨xs, h1, -⟩ := HT4.out.1.own
        obtain ⟨_, -, -, hh, -⟩ := own_blk h1
        exact hh
      have HP := Lib.hid hp
      have hsl : (0 : Int) ≤ (p : Int) + 1 ∧ (p : Int) + 1 ≤ (c : Int) := by omega
      have hsn : ((p : Int) + 1).toNat = p + 1 := by omega
      have hc1 : (p : Int) + 1 ≤ (c : Int) := hsl.2
      have hc0 : (0 : Int) ≤ (p : Int) + 1 := hsl.1
      clear c0 c1 c2' c3 z0 z1 z3 cf0 cf1 cf2 cf3 hp hb2
      go_wp2_with fail
      refine (pick80 _ _ _ hx2 hpos (by omega)).mono ?_
      rintro e w' ⟨rfl, rfl⟩
      rw [HP.out]
      go_wp2
      go_ret
      refine ⟨_, rfl, ?_, HT4.out.1.bel⟩
      rw [HBD.out, if_pos HPV.out, HP.out, Int.toNat_natCast]
      have hv := HT4.out.1.view (s := s) hkl (wts_own HT4.out.2.1 HT4.out.2.2)
      have hself : l.set k s = l := by
        rw [← HSS.out, List.getD_eq_getElem?_getD, List.getElem?_eq_getElem hkl]
        exact List.set_getElem_self hkl
      rw [hself] at hv
      exact steps_take hv (by omega)
    · clear c0 c3 z0 z1 z2 z3 cf0 cf3
      go_wp2_with fail
      go_region
      go_wp2
      go_ret
      have HTx := ((HT4.out.1.put (k * 4 + 1) (.int .i64 s.yes) (fun xs hh => hh.set1 _)).put (k * 4 + 2) (.int .i64 s.no) (fun xs hh => hh.set2 _)).below (Below.refl _ _).drew
      have hox := owned_below (ownsRow_set_ne (ownsRow_set_ne HT4.out.2.1 (fun q hq e => by cases hq; exact hne e) (k * 4 + 1) (.int .i64 s.yes)) (fun q hq e => by cases hq; exact hne e) (k * 4 + 2) (.int .i64 s.no)) (Below.refl _ _).drew
      refine ⟨_, rfl, ?_, (HTx).bel⟩
      rw [HBD.out, if_neg (by rw [HPV.out]; decide), show bentS s l.length x1 x2 x3 = ⟨s.var, s.yes, s.no, s.wts⟩ from by unfold bentS; rw [HPV.out]; rfl]
      exact (HTx).view (s := ⟨s.var, s.yes, s.no, s.wts⟩) hkl (wts_own hox HT4.out.2.2)
    · clear c0 c1 c2' c3 z0 z1 z2 z3 cf0 cf1 cf2 cf3
      go_wp2
      go_ret
      refine ⟨_, rfl, ?_, HT4.out.1.bel⟩
      rw [HBD.out, if_neg (by rw [HPV.out]; decide), show bentS s l.length x1 x2 x3 = s from by unfold bentS; rw [HPV.out]; rfl]
      exact HT4.out.1.view hkl (wts_own HT4.out.2.1 HT4.out.2.2)
end Go.Proofs.Ytblmpmapcdpaiaa
end
