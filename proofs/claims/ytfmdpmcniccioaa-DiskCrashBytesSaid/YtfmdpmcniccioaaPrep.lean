/- A number put in front of a row of the call's own; the crash of DiskCrashBytes, plainly. -/
import Derived.Test.YtfmdpmcniccioaaPlain3
import Derived.Laws.AppendOwnNone
namespace Go.Proofs.Ytfmdpmcniccioaa
open Go.RowKit Go.Shelf Lib

/-- 'l = append([]int{k}, l...)'. -/
theorem wpList_prep {ops : Array Oper} {rest : List Oper} {o : Oper} {a : Act} {Q : Exit → Act → World → Prop} {w0 : World} (hgd : o.guard = none) (s x : Operand)
    (ho : o.op = .call { callee := .builtin .append, args := #[s, x], argTypes := #[37, 37] })
    (base : Nat) {v : Value} {m : Nat} {xs : List Value} {k : Int} (hown : w0.ownsRow base 3 1 v m xs) (hs : a.eval s = .slice (some ⟨w0.heap.size, 0, none⟩) 1 1) (hx : a.eval x = v)
    (hxs : ∀ u ∈ xs, u.oneCell' = true) (hm : m ≤ 1000) (hbase : base ≤ w0.heap.size)
    (h : ∀ v' w', w'.ownsRow base 3 1 v' (m + 1) (.int .i64 k :: xs) → Below w0.heap.size w0 w' → wpList Try.prog ops Q rest (a.put o.dst v') w') :
    wpList Try.prog ops Q (o :: rest) a (w0.alloc (.cells #[.int .i64 k] 3)) := by
  obtain ⟨i, hi, hz0, hz1, hz2⟩ := info_parts E37.info
  have hA : Below w0.heap.size w0 (w0.alloc (.cells #[.int .i64 k] 3)) := (Below.refl _ _).alloc (Nat.le_refl _) _
  have hb := Blk.new w0 #[.int .i64 k] 3
  have hf : (w0.alloc (.cells #[.int .i64 k] 3)).ownsRow w0.heap.size 3 1 (.slice (some ⟨w0.heap.size, 0, none⟩) 1 1) 1 [.int .i64 k] :=
    ⟨rfl, .inr ⟨w0.heap.size, 1, #[.int .i64 k], rfl, Nat.le_refl _, hb, Nat.le_refl _, by decide, rfl, rfl⟩⟩
  rcases hown.2 with ⟨rfl, hn⟩ | ⟨g, cap, cur, rfl, hg, hgb, h1, h2, -⟩
  · refine wpList_append_own_none hgd s x 37 ho w0.heap.size 3 i 1 E37.und hi _ 1 _ hs hf hx ?_
    have hl : xs = [] := by have := hown.1; rw [hn, Nat.zero_mul] at this; exact List.length_eq_zero_iff.1 this
    subst hn hl
    exact h _ _ (ownsRow_base hf hbase) hA
  · have hgl : g < w0.heap.size := (hown.lt g rfl).2
    refine wpList_append_own _ hgd s x 37 ho w0.heap.size 3 i _ 1 8 E37.und hi hz0 hz1 hz2 E37.zs E37.pos _ 1 _ hs hf ⟨g, 0, none⟩ m cap xs hx (by rw [hown.1]) ?_ hxs (by unfold maxLen; omega) (by omega) (by simp) ?_
    · intro j u hj
      have := hown.cells rfl j u hj
      rw [World.cell?_alloc_some _ _ _ (by rw [this]; rfl)]
      exact this
    · intro v' w' h3 h4 _
      rw [Nat.add_comm 1 m] at h3
      exact h v' w' (ownsRow_base h3 hbase) (hA.grown h4 (by simp) (fun k hk => by cases hk; exact Nat.le_refl _))
theorem tornW_fit {n : Nat} {w : WrD} (h : w.off + w.s.size ≤ n) (torn : Int) : (tornW torn w).off + (tornW torn w).s.size ≤ n := by
  unfold tornW
  split
  · show w.off + (cutS w.s _).size ≤ n
    rw [cutS_size _ _ (by omega)]; omega
  · exact h
theorem crash_bytes {D : DiskD} {kl : List Bool} {f : Nat → WrD} {m : Nat} {b0 : List UInt8} (torn : Int) (hd : D.dur = b0) (hp : D.pend = (List.range m).map f) :
    crashB D ((keptN kl m).reverse.map fun i : Nat => (i : Int)) torn = ((keptN kl m).map (putW torn (lastN kl m) f)).foldl ontoW b0 := by
  have hl : D.pend.length = m := by rw [hp]; simp
  have h1 : keptI D.pend.length ((keptN kl m).reverse.map fun i : Nat => (i : Int)) = keptN kl m := by
    unfold keptI
    rw [hl]
    conv => rhs; unfold keptN
    refine List.filter_congr fun i hi => ?_
    have him : i < m := by simpa using hi
    have : ((i : Int) ∈ (keptN kl m).reverse.map fun i : Nat => (i : Int)) ↔ kl.getD i false = true := by
      constructor
      · intro h
        obtain ⟨j, hj, e⟩ := List.mem_map.1 h
        obtain rfl : j = i := by omega
        have := List.mem_reverse.1 hj
        unfold keptN at this
        exact (List.mem_filter.1 this).2
      · intro h
        refine List.mem_map.2 ⟨i, List.mem_reverse.2 ?_, rfl⟩
        unfold keptN
        exact List.mem_filter.2 ⟨hi, h⟩
    cases hk : kl.getD i false with
    | true => rw [decide_eq_true (this.2 hk)]
    | false => rw [decide_eq_false (fun q => by rw [this.1 q] at hk; cases hk)]
  unfold crashB keptW
  rw [h1, hd]
  have h2 : (keptN kl m).map (fun i => D.pend.getD i dW) = (keptN kl m).map f := by
    refine List.map_congr_left fun i hi => ?_
    have := keptN_lt hi
    rw [hp, List.getD_eq_getElem?_getD, List.getElem?_map, List.getElem?_range this]
    rfl
  rw [h2, torn_kept]
end Go.Proofs.Ytfmdpmcniccioaa
