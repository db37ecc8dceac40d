/- Appending a row to a slice of rows that is full, as a step of a region that draws. -/
import Derived.Test.YtblmpmapcdpaiaaP14
import Derived.Test.YtblmpmapcdpaiaaFlat
import Derived.Deep.RegionLawGrows
namespace Go.Proofs.Ytblmpmapcdpaiaa
open Go.RowKit Go.Shelf Lib

theorem E27 : ElemOK Try.prog 27 26 (.agg #[.int .i64 0, .int .i64 0, .int .i64 0, .int .i64 0, .slice none 0 0, .int .i64 0]) 6 64 := ⟨Try.underlying27, by kernel_rfl, rfl, by decide⟩
theorem below_grown {w w' : World} (h : w.grownBy w' none) : Below w.heap.size w w' := (Below.refl _ w).grown h (Nat.le_refl _) (fun k e => by cases e)
theorem step_rows {ops : Array Oper} {o : Oper} {a : Act} {w : World} {K : Act → World → Prop} {Q : Exit → Act → World → Prop} {E : Prop}
    (hg : o.guard = none) (s x : Operand) (hop : o.op = Op.call { callee := Callee.builtin Builtin.append, args := #[s, x], argTypes := #[27, 27] })
    {ra : Option Addr} {cap B : Nat} {rows : List RowD} {r : RowD} (hrows : RowsAt w (.slice ra rows.length cap) rows) (hs : a.eval s = .slice ra rows.length rows.length)
    (cs : Array Value) (hx : a.eval x = .slice (some ⟨B, 0, none⟩) 1 1) (hb : Blk w B cs 26) (hr : RowCs w cs.toList r) (h1 : ∀ u ∈ cs.toList, u.oneCell' = true) (hn : rows.length ≤ 1000)
    (hK : ∀ a' cap' w', RowsAt w' (.slice a' (rows.length + 1) cap') (rows ++ [r]) → Below w.heap.size w w' → K (a.put o.dst (.slice a' (rows.length + 1) cap')) w') :
    if Region.wanted o (yielded ops a.tmps) = true then Oper.wp Try.prog o a w K Q else E := by
  obtain ⟨i, hi, hz0, hz1, hz2⟩ := info_parts E27.info
  obtain ⟨olds, ho1, ho2⟩ := hrows.flat
  have h6 : cs.toList.length = 6 := by obtain ⟨vc, e, -⟩ := hr; rw [e]; rfl
  refine step_append_grows hg s x 27 hop 26 i _ 6 64 E27.und hi hz0 hz1 hz2 E27.zs E27.pos ra rows.length rows.length olds hs ?_ ho1.len ho2 ⟨B, 0, none⟩ 1 1 cs.toList hx (by rw [h6]) ?_ h1 (by omega) (by unfold maxLen; omega) (by omega) ?_
  · rintro rfl
    rw [hrows.none]; exact ⟨rfl, rfl⟩
  · intro j u hj
    rw [add_zero_off]
    exact (hb.cell j).trans (by simpa using hj)
  · intro v' w' hown hgrow
    have hB := below_grown hgrow
    have hv := flat_view (l := rows ++ [r]) (R := RowCs) (by simpa using hown) ((ho1.imp (fun cs y h => h.below hB)).app (FlatC.one h6 (hr.below hB)))
    obtain ⟨a', cap', e, -, -⟩ := hv.len
    subst e
    have := hK a' cap' w' (by unfold RowsAt; simpa using hv) hB
    simpa using this
end Go.Proofs.Ytblmpmapcdpaiaa
