/- Laws of chapter 18: a row copied behind an empty literal. -/
import Derived.Test.YtmajkagmcdlncaaQ2
import Derived.ArgAppend
namespace Go.Proofs.Ytmajkagmcdlncaa
open Go.RowKit Go.Shelf

theorem StructsOf.flatCells {α : Type} {n : Nat} {f : α → List Value} {w : World} {b off : Nat} {l : List α} (hn : 0 < n) (hf : ∀ y, (f y).length = n)
    (h : ∀ j y, l[j]? = some y → ∀ i c, (f y)[i]? = some c → w.cell? ⟨b, off + j * n + i, none⟩ = some c) : ∀ j u, (flat f l)[j]? = some u → w.cell? ((⟨b, off, none⟩ : Addr).add j) = some u := by
  intro j u hj
  have hjl : j < l.length * n := by
    rw [← flat_len hf l]
    refine Classical.byContradiction fun hc => ?_
    rw [List.getElem?_eq_none (by omega)] at hj; cases hj
  have hk : j / n < l.length := Nat.div_lt_of_lt_mul (by rw [Nat.mul_comm]; exact hjl)
  have hi : j % n < n := Nat.mod_lt _ hn
  have hjj : j / n * n + j % n = j := by rw [Nat.mul_comm]; exact Nat.div_add_mod j n
  obtain ⟨c, hc⟩ : ∃ c, (f (l[j / n]'hk))[j % n]? = some c := ⟨_, List.getElem?_eq_getElem (by rw [hf]; exact hi)⟩
  have h1 := flat_get hf l (j / n) _ (List.getElem?_eq_getElem hk) _ _ hc
  rw [hjj, hj] at h1
  cases h1
  have := h (j / n) _ (List.getElem?_eq_getElem hk) _ _ hc
  rw [addr_add]
  rwa [Nat.add_assoc, hjj] at this
theorem wpList_copyN {P : Program} {α : Type} {f : α → List Value} {ops : Array Oper} {rest : List Oper} {o : Oper} {a : Act} {Q : Exit → Act → World → Prop} {t e : TypeId} {z : Value} {size bytes : Nat} {w0 : World}
    (E : ElemOK P t e z size bytes) (hgd : o.guard = none) (s x : Operand) (ho : o.op = .call { callee := .builtin .append, args := #[s, x], argTypes := #[t, t] })
    {B : Nat} (hB : B ≤ w0.heap.size) (hs : a.eval s = .slice (some ⟨w0.heap.size, 0, none⟩) 0 0) {xa : Option Addr} {xc : Nat} {l : List α} (hx : a.eval x = .slice xa l.length xc)
    (hf : ∀ y, (f y).length = size) (hv : 0 < l.length → ∃ b off, xa = some ⟨b, off, none⟩ ∧ ∀ j y, l[j]? = some y → ∀ i c, (f y)[i]? = some c → w0.cell? ⟨b, off + j * size + i, none⟩ = some c)
    (hn : l.length ≤ 100000) (hby : bytes ≤ 1000)
    (h : ∀ v' w', w'.ownsRow B e size v' l.length (flat f l) → Below B w0 w' → wpList P ops Q rest (a.put o.dst v') w') : wpList P ops Q (o :: rest) a (w0.alloc (.cells #[] e)) := by
  obtain ⟨i, hi, hz0, hz1, hz2⟩ := info_parts E.info
  have hbA : Below B w0 (w0.alloc (.cells #[] e)) := (Below.refl _ _).alloc hB _
  refine wpList_plain hgd fun K hK' => ?_
  by_cases h0 : 0 < l.length
  · obtain ⟨b, off, rfl, hc⟩ := hv h0
    have hcell := StructsOf.flatCells (f := f) (w := w0.alloc (.cells #[] e)) (b := b) (off := off) (l := l) E.pos hf (fun j y hj i c hic => by
      have := hc j y hj i c hic
      exact (hbA.mono (Nat.le_refl _) |> fun _ => ((Below.refl w0.heap.size w0).alloc (Nat.le_refl _) (.cells #[] e)).cell (World.block_lt_of_cell? _ _ this)).trans this)
    obtain ⟨v', w', hrun, r1, r2⟩ := run_append_arg_grows (P := P) (w0.alloc (.cells #[] e)) t o.type e i z size bytes E.und hi hz0 hz1 hz2 E.zs E.pos ⟨w0.heap.size, 0, none⟩ 0 0 [] (by simp) (fun j u hj => by simp at hj)
      ⟨b, off, none⟩ l.length xc (flat f l) (flat_len hf l) hcell (by omega) (by unfold maxLen; omega) (by
        rw [Nat.zero_add]
        exact Nat.le_trans (Nat.mul_le_mul hn hby) (by decide))
    unfold Oper.wp
    simp [execOp, ho, resolve, invoke, builtin, hs, hx, hrun, Result.andThen]
    refine hK' _ _ (h v' w' ?_ (hbA.trans ?_))
    · rw [Nat.zero_add, List.nil_append] at r1
      exact ownsRow_base r1 (by simp; omega)
    · exact ⟨r2.os, r2.tape, r2.output, r2.size, fun k hk => r2.block k (by simp; omega) (by simp)⟩
  · have hnil : l = [] := List.eq_nil_of_length_eq_zero (by omega)
    subst hnil
    have hsrc : Src P i.size t (.slice xa 0 xc) 0 [] (w0.alloc (.cells #[] e)) := by
      cases xa with
      | none => exact Src.ofNil _ E.und _
      | some ad => exact Src.ofSlice _ E.und _ _ _ _ (by simp) (fun j u hj => by simp at hj) (fun u hu => by cases hu)
    have hrun := run_append_room_src (w0.alloc (.cells #[] e)) t t o.type e i E.und hi w0.heap.size 0 0 0 _ _ _ hsrc (by omega) (fun j hj => by simp at hj) (fun j hj => by simp at hj)
    unfold Oper.wp
    simp only [List.length_nil] at hx
    simp [execOp, ho, resolve, invoke, builtin, hs, hx, hrun, Result.andThen]
    exact hK' _ _ (h _ _ ⟨by simp [flat], .inr ⟨w0.heap.size, 0, #[], rfl, hB, Blk.new w0 #[] e, by simp, by decide, by simp, by simp [flat]⟩⟩ hbA)
end Go.Proofs.Ytmajkagmcdlncaa
