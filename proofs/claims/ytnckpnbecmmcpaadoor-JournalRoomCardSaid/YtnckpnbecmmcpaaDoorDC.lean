/- An append of owned strings to strings of the call's own. -/
import Derived.Test.YtnckpnbecmmcpaaDoorJM
namespace Go.Proofs.YtnckpnbecmmcpaaDoor
open Go.RowKit
/-- An append of owned strings to strings of the call's own. -/
theorem wpList_cat {ops : Array Oper} {rest : List Oper} {o : Oper} {a : Act} {w : World} {Q : Exit → Act → World → Prop}
    (hg : o.guard = none) (s x : Operand) (hop : o.op = Op.call { callee := Callee.builtin Builtin.append, args := #[s, x], argTypes := #[22, 22] })
    (base base2 : Nat) {v v2 : Value} {l l2 : List ByteArray} (hown : w.ownsRow base 9 1 v l.length (l.map Value.string)) (hown2 : w.ownsRow base2 9 1 v2 l2.length (l2.map Value.string)) (hs : a.eval s = v) (hx : a.eval x = v2) (hn : l.length + l2.length ≤ 10000000) (hbase : base ≤ w.heap.size)
    (h : ∀ v' w', w'.ownsRow base 9 1 v' (l ++ l2).length ((l ++ l2).map Value.string) → w.grownBy w' v.ownBlock → wpList Tryd.prog ops Q rest (a.put o.dst v') w') : wpList Tryd.prog ops Q (o :: rest) a w :=
  wpList_plain hg fun K hK => by
    have := step_cat (ops := ops) (K := K) (Q := Q) (E := True) hg s x hop base base2 hown hown2 hs hx hn hbase (fun v' w' h1 h2 => hK _ _ (h v' w' h1 h2))
    have hw : Region.wanted o (yielded ops a.tmps) = true := by simp [Region.wanted, hg]
    rw [if_pos hw] at this
    exact this
end Go.Proofs.YtnckpnbecmmcpaaDoor
