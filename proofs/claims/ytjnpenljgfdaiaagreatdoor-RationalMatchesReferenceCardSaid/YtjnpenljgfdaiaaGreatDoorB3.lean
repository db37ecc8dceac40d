/- package integer: a group put in front of a number. -/
import Derived.Test.YtjnpenljgfdaiaaGreatDoorI5
import Derived.Test.YtjnpenljgfdaiaaGreatDoorRnd
import Derived.Test.YtjnpenljgfdaiaaGreatDoorB2
import Derived.Laws.AppendOwnNone
namespace Go.Proofs.YtjnpenljgfdaiaaGreatDoor
open Go.RowKit Go.Shelf Lib
attribute [local go_sem] Oper.semAt_some

theorem IntsAt.turn {zs : Nat → Prop} {D : Nat} {A B : World} {v : Value} {l : List Int} (h : IntsAt A v l) (ht : Turn zs D A B) (hz : ∀ k, ¬ zs k) : IntsAt B v l := by
  obtain ⟨a, cap, h1, h2, h3, h4⟩ := h
  refine ⟨a, cap, h1, h2, h3, fun hl => ?_⟩
  obtain ⟨b, off, rfl, h5⟩ := h4 hl
  refine ⟨b, off, rfl, fun j y hj => ?_⟩
  have hc := h5 j y hj
  unfold World.cell? at hc ⊢
  cases ho : A.heap[b]? with
  | none => simp [ho] at hc
  | some o =>
    cases o with
    | cells cs e fz =>
      rw [ht.heap ho (hz b) (.inr rfl)]
      rw [ho] at hc
      exact hc
    | _ => simp [ho] at hc
theorem run_append_none (w : World) (base : Nat) (t ty e : TypeId) (i : TypeInfo) (size c : Nat) (ht : Tryz.prog.underlying t = some (.slice e)) (hi : Tryz.prog.info? e = some i) (v : Value) (n : Nat) (xs : List Value) (hown : w.ownsRow base e size v n xs) :
    (Builtin.append_ #[t, t] ty #[v, .slice none 0 c]).run Tryz.prog w = .ok v w := by
  rcases hown.2 with ⟨rfl, rfl⟩ | ⟨g, cap, cur, rfl, _, _, hnc, _⟩
  · simp [Builtin.append_, run_underlying ht, sizeOf, typeInfo, hi, Builtin.lenOf, Builtin.firstCells]
  · simp [Builtin.append_, run_underlying ht, sizeOf, typeInfo, hi, Builtin.lenOf, Builtin.firstCells, hnc, storeCells]
/-- 'append(own, any...)': own is no nil slice. -/
theorem wpList_appN {t e : TypeId} {z : Value} {size bytes : Nat} {ops : Array Oper} {rest : List Oper} {o : Oper} {a : Act} {Q : Exit → Act → World → Prop} {w : World} (E : ElemOK Tryz.prog t e z size bytes) (hgd : o.guard = none) (s x : Operand)
    (ho : o.op = .call { callee := .builtin .append, args := #[s, x], argTypes := #[t, t] })
    (base : Nat) {g0 c0 n m c : Nat} {xs news : List Value} {xa : Option Addr} (hown : w.ownsRow base e size (.slice (some ⟨g0, 0, none⟩) n c0) n xs) (hs : a.eval s = .slice (some ⟨g0, 0, none⟩) n c0) (hx : a.eval x = .slice xa m c) (hl : news.length = m * size)
    (hnews : ∀ p, xa = some p → ∀ j u, news[j]? = some u → w.cell? (p.add j) = some u) (hnone : xa = none → m = 0) (h1 : ∀ u ∈ news, u.oneCell' = true) (hn : n + m ≤ maxLen) (hby : (n + m) * bytes ≤ 140737488355328) (hbase : base ≤ w.heap.size)
    (h : ∀ g c' w', w'.ownsRow base e size (.slice (some ⟨g, 0, none⟩) (n + m) c') (n + m) (xs ++ news) → w.grownBy w' (some g0) → base ≤ g → n + m ≤ c' → wpList Tryz.prog ops Q rest (a.put o.dst (.slice (some ⟨g, 0, none⟩) (n + m) c')) w') : wpList Tryz.prog ops Q (o :: rest) a w := by
  obtain ⟨i, hi, hz0, hz1, hz2⟩ := info_parts E.info
  cases xa with
  | none =>
    obtain rfl := hnone rfl
    obtain rfl : news = [] := List.eq_nil_of_length_eq_zero (by simpa using hl)
    refine wpList_plain hgd fun K hK => ?_
    have hrun := run_append_none w base t o.type e i size c E.und hi _ n xs hown
    unfold Oper.wp
    simp [execOp, ho, resolve, invoke, builtin, hs, hx, hrun, Result.andThen]
    obtain ⟨hb, hc⟩ : base ≤ g0 ∧ n ≤ c0 := by
      rcases hown.2 with ⟨e, -⟩ | ⟨g', cap, cur, e, hb, -, hc, -⟩
      · cases e
      · cases e; exact ⟨hb, hc⟩
    exact hK _ _ (h g0 c0 w (by simpa using hown) ⟨rfl, rfl, rfl, Nat.le_refl _, fun _ _ _ => rfl⟩ hb hc)
  | some p =>
    refine wpList_append_own w hgd s x t ho base e i z size bytes E.und hi hz0 hz1 hz2 E.zs E.pos _ n xs hs hown p m c news hx hl (hnews p rfl) h1 hn hby hbase ?_
    intro v' w' h2 h3 h4
    rcases h2.2 with ⟨e, -⟩ | ⟨g, cap, cur, rfl, hb, -, hc, -⟩
    · cases (h4.1 e).1
    · exact h g cap w' h2 h3 hb hc
/-- 'append(number{k}, l...)'. -/
theorem wpList_cons {ops : Array Oper} {rest : List Oper} {o : Oper} {a : Act} {Q : Exit → Act → World → Prop} {w0 : World} (hgd : o.guard = none) (s x : Operand)
    (ho : o.op = .call { callee := .builtin .append, args := #[s, x], argTypes := #[88, 88] }) {v : Value} {l : List Nat} {k : Nat} (hl : IntsAt w0 v (castL l)) (hs : a.eval s = .slice (some ⟨w0.heap.size, 0, none⟩) 1 1) (hx : a.eval x = v) (hm : l.length ≤ 1000000)
    (h : ∀ g c w', IntsAt w' (.slice (some ⟨g, 0, none⟩) (1 + l.length) c) (castL (k :: l)) → 1 + l.length ≤ c → c ≤ maxLen → Below w0.heap.size w0 w' → w0.heap.size ≤ g → wpList Tryz.prog ops Q rest (a.put o.dst (.slice (some ⟨g, 0, none⟩) (1 + l.length) c)) w') :
    wpList Tryz.prog ops Q (o :: rest) a (w0.alloc (.cells #[.int .i64 k] 3)) := by
  have hA : Below w0.heap.size w0 (w0.alloc (.cells #[.int .i64 k] 3)) := (Below.refl _ _).alloc (Nat.le_refl _) _
  have hb : (w0.alloc (.cells #[.int .i64 k] 3)).heap[w0.heap.size]? = some (.cells #[.int .i64 k] 3 (0, 0)) := World.alloc_heap_new _ _
  have hf : (w0.alloc (.cells #[.int .i64 k] 3)).ownsRow w0.heap.size 3 1 (.slice (some ⟨w0.heap.size, 0, none⟩) 1 1) 1 [.int .i64 k] :=
    ⟨rfl, .inr ⟨w0.heap.size, 1, #[.int .i64 k], rfl, Nat.le_refl _, hb, Nat.le_refl _, by decide, rfl, rfl⟩⟩
  have hl2 := SliceOf.below (show SliceOf (Value.int .i64) w0 _ _ from hl) hA
  obtain ⟨xa, cap, rfl, h1, h2⟩ := hl.len
  rw [castL_len] at *
  refine wpList_appN E88 hgd s x ho w0.heap.size (news := (castL l).map (Value.int .i64)) hf hs hx (by simp [castL_len]) ?_ ?_ ?_ (by unfold maxLen; omega) (by omega) (by simp) ?_
  · rintro p rfl j u hj
    rw [List.getElem?_map] at hj
    cases hy : (castL l)[j]? with
    | none => rw [hy] at hj; cases hj
    | some y =>
      rw [hy] at hj
      obtain rfl : Value.int .i64 y = u := by simpa using hj
      obtain ⟨b, off, he, hc⟩ := SliceOf.get hl2 hy
      cases he
      unfold Addr.add
      split
      · rename_i hj0; subst hj0; simpa using hc
      · exact hc
  · rintro rfl
    refine Classical.byContradiction fun hc => ?_
    obtain ⟨b, off, he, -⟩ := SliceOf.get hl2 (castL_get (i := 0) (by omega))
    cases he
  · intro u hu
    obtain ⟨y, -, rfl⟩ := List.mem_map.1 hu
    simp [Value.oneCell']
  · intro g c' w' h3 h4 h5 h6
    have hc : c' ≤ maxLen := by
      rcases h3.2 with ⟨e, -⟩ | ⟨g', cap', cur, e, -, -, -, hc, -⟩
      · cases e
      · cases e; exact hc
    refine h g c' w' ?_ h6 hc (hA.grown h4 (by simp) (fun k hk => by cases hk; exact Nat.le_refl _)) h5
    refine owned_slice (B := w0.heap.size) (e := 3) ?_
    rw [show (castL (k :: l)).length = 1 + l.length by rw [castL_len, List.length_cons, Nat.add_comm]]
    exact h3
end Go.Proofs.YtjnpenljgfdaiaaGreatDoor
