/- Small laws over any program. -/
import Derived.WalkKit
import Derived.Laws.BytesArg
import Derived.Lib.Hide
namespace Go.Proofs.YtnckpnbecmmcpaaGreatDoor
open Go.RowKit

theorem retEq {v v' : Value} (h : v = v') : Ending.returned v = .returned v' := by rw [h]
theorem intEq {k : IntKind} {a b : Int} (h : a = b) : Value.int k a = .int k b := by rw [h]

theorem add_zero_off (g i : Nat) : (⟨g, 0, none⟩ : Addr).add i = ⟨g, i, none⟩ := by
  unfold Addr.add; split <;> simp_all

/-- A row of bytes of the call's own, as a string. -/
theorem run_convert_owned {P : Program} {w : World} {base e n : Nat} {v : Value} {xs : List Int} (src dst : TypeId) (hs : P.underlying src = some (.slice e)) (he : P.underlying e = some (.int .u8)) (hd : P.underlying dst = some .string)
    (h : w.ownsRow base e 1 v n (xs.map (Value.int .u8))) : (convert src dst v).run P w = .ok (.string (strOfNums xs)) w := by
  have hl := h.1
  rcases h.2 with ⟨rfl, hn⟩ | ⟨g, cap, cur, rfl, hg, hh, hnc, hc, hcs, ht⟩
  · have : xs = [] := by simpa [hn] using hl
    subst this
    have := run_convert_bytes_nil (P := P) (w := w) src e hs he 0 0 dst hd
    rw [this]; rfl
  · refine run_convert_bytes_arg (P := P) w src e hs he g 0 n cap xs (by simpa using hl) (fun i hi => ?_) dst hd
    have hc2 := h.cells rfl i (.int .u8 (xs.getD i 0)) (by
      have : i < xs.length := by simp at hl; omega
      simp [List.getElem?_map, List.getElem?_eq_getElem this, List.getD])
    rw [add_zero_off] at hc2
    simpa using hc2

/-- What an append asks of a slice type and its element type. -/
structure ElemOK (P : Program) (t e : TypeId) (z : Value) (size bytes : Nat) : Prop where
  und : P.underlying t = some (.slice e)
  info : (P.info? e).map (fun i => (i.zero, i.size, i.bytes)) = some (some z, size, bytes)
  zs : z.cells.size = size
  pos : 0 < size

theorem grown_below {w0 w' : World} {base e size n : Nat} {v : Value} {xs : List Value} {o : Obj} (hown : w0.ownsRow base e size v n xs) (hg : (w0.alloc o).grownBy w' v.ownBlock) (hbase : base ≤ w0.heap.size) : Below base w0 w' :=
  ((Below.refl _ _).alloc hbase o).grown hg (by simp; omega) (fun k hk => (hown.lt k hk).1)

/-- 'out = append(out, x)', x of one cell. -/
theorem wpList_push {P : Program} {ops : Array Oper} {rest : List Oper} {o : Oper} {a : Act} {Q : Exit → Act → World → Prop} {t e : TypeId} {z : Value} {bytes : Nat} {w0 : World} {u : Value}
    (E : ElemOK P t e z 1 bytes) (hgd : o.guard = none) (s x : Operand)
    (ho : o.op = .call { callee := .builtin .append, args := #[s, x], argTypes := #[t, t] })
    (base : Nat) {v : Value} {n : Nat} {xs : List Value} (hown : w0.ownsRow base e 1 v n xs) (hs : a.eval s = v) (hx : a.eval x = .slice (some ⟨w0.heap.size, 0, none⟩) 1 1)
    (h1 : u.oneCell' = true) (h63 : n + 1 ≤ maxLen) (hbytes : (n + 1) * bytes ≤ 140737488355328) (hbase : base ≤ w0.heap.size)
    (h : ∀ v' w', w'.ownsRow base e 1 v' (n + 1) (xs ++ [u]) → (w0.alloc (.cells #[u] e)).grownBy w' v.ownBlock → Below base w0 w' → wpList P ops Q rest (a.put o.dst v') w') :
    wpList P ops Q (o :: rest) a (w0.alloc (.cells #[u] e)) := by
  obtain ⟨i, hi, hz0, hz1, hz2⟩ := info_parts E.info
  refine wpList_append_own _ hgd s x t ho base e i z 1 bytes E.und hi hz0 hz1 hz2 E.zs E.pos v n xs hs (hown.alloc _) ⟨w0.heap.size, 0, none⟩ 1 1 [u] hx rfl ?_ ?_ h63 hbytes (by simp; omega) ?_
  · intro j y hj
    cases j with
    | zero =>
      simp at hj; subst hj
      rw [add_zero_off, World.cell?_alloc_at _ _ _ _ rfl]; rfl
    | succ j => simp at hj
  · intro y hy; simp at hy; subst hy; exact h1
  · intro v' w' ho' hg _
    exact h v' w' ho' hg (grown_below hown hg hbase)
end Go.Proofs.YtnckpnbecmmcpaaGreatDoor
