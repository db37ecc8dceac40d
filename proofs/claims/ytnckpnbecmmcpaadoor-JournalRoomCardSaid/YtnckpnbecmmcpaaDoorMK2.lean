/- Texts KShelf, KD6, KD7, KD8, KD9, KPlain2, KD10, KD11, KOn, KOn2, KOn3, KPut in one. -/
import Derived.Shelf.Sort.Plain
import Derived.Shelf.Slices.CompactI
import Derived.Shelf.Slices.In.SortNone
import Derived.Test.YtnckpnbecmmcpaaDoorProg
import Derived.Test.YtnckpnbecmmcpaaDoorMK1
import Derived.Test.YtnckpnbecmmcpaaDoorRangeM
import Derived.Lib.SlKeysI
import Derived.Lib.RowBridge
section
/- The library's contracts of slices.Sort and slices.Compact at []int, laid at this dump (written by the shelf's own command, its remarks left out). -/
namespace Go.Proofs
open Go.Shelf
end Go.Proofs
end
section
/- slices.Values, AppendSeq, Collect over a slice of integers. -/
namespace Go.Proofs.YtnckpnbecmmcpaaDoor
open Go.RowKit Go.Shelf Lib
attribute [local go_sem] Oper.semAt_some

abbrev IntsAt (w : World) (v : Value) (l : List Int) : Prop := SliceOf (Value.int .i64) w v l
theorem E37 : ElemOK Tryd.prog 152 3 (.int .i64 0) 1 8 := ⟨Tryd.underlying152, by kernel_rfl, rfl, by decide⟩
theorem SliceOf.get {α : Type} {f : α → Value} {w : World} {a : Option Addr} {len cap : Nat} {l : List α} (h : SliceOf f w (.slice a len cap) l) {k : Nat} {y : α} (hk : l[k]? = some y) :
    ∃ b off, a = some ⟨b, off, none⟩ ∧ w.cell? ⟨b, off + k, none⟩ = some (f y) := by
  obtain ⟨a', cap', e, h2, h3, h4⟩ := h
  have hl : 0 < l.length := by
    refine Classical.byContradiction fun hc => ?_
    rw [List.getElem?_eq_none (by omega)] at hk; cases hk
  obtain ⟨b, off, rfl, h5⟩ := h4 hl
  cases e
  exact ⟨b, off, rfl, h5 k y hk⟩
theorem getD_some {α : Type} {l : List α} {k : Nat} (d : α) (h : k < l.length) : l[k]? = some (l.getD k d) := by
  rw [List.getD_eq_getElem?_getD, List.getElem?_eq_getElem h]; rfl
theorem SliceOf.len {α : Type} {f : α → Value} {w : World} {v : Value} {l : List α} (h : SliceOf f w v l) : ∃ (a : Option Addr) (cap : Nat), v = .slice a l.length cap ∧ l.length ≤ cap ∧ cap ≤ maxLen := by
  obtain ⟨a, cap, h1, h2, h3, -⟩ := h; exact ⟨a, cap, h1, h2, h3⟩
theorem owned_slice {α : Type} {f : α → Value} {B : Nat} {e : TypeId} {v : Value} {l : List α} {w : World} (h : w.ownsRow B e 1 v l.length (l.map f)) : SliceOf f w v l := by
  rcases h.2 with ⟨rfl, hn⟩ | ⟨g, cap, cur, rfl, hb, hg, h1, h2, -⟩
  · exact ⟨none, 0, by rw [hn], by omega, by unfold maxLen; omega, fun hl => by omega⟩
  · refine ⟨_, cap, rfl, h1, h2, fun _ => ⟨g, 0, rfl, fun j y hj => ?_⟩⟩
    have := h.cells rfl j (f y) (by rw [List.getElem?_map, hj]; rfl)
    rw [add_zero_off] at this
    simpa using this
/-- What a round over the values leaves as it lay. -/
def KpC (B0 pB : Nat) (W W' : World) : Prop := Below B0 W W' ∧ W'.heap[pB]? = W.heap[pB]?
theorem KpC.trans {B0 pB : Nat} {A B C : World} (h : KpC B0 pB A B) (k : KpC B0 pB B C) : KpC B0 pB A C := ⟨h.1.trans k.1, k.2.trans h.2⟩
theorem KpC.putObj {B0 pB : Nat} {W : World} {l : Nat} {o : Obj} (o' : Obj) (h1 : B0 ≤ l) (h2 : pB < l) (hl : W.heap[l]? = some o) : KpC B0 pB W (W.putObj l o') :=
  ⟨(Below.refl B0 W).grown (grownBy_putObj' W l o') (by have := (Array.getElem?_eq_some_iff.1 hl).1; omega) (fun k hk => by simp at hk; omega), World.putObj_heap_other (by omega)⟩
abbrev encI (x : Int) : Array Value := #[.int .i64 x]

end Go.Proofs.YtnckpnbecmmcpaaDoor
end
section
/- slices.Sorted over the values of a slice; slices.Compact; what an own row of integers holds behind them. -/
namespace Go.Proofs.YtnckpnbecmmcpaaDoor
open Go.RowKit Go.Shelf Lib Go.Sort

def sortI (l : List Int) : List Int := l.mergeSort fun x y => decide (x ≤ y)
end Go.Proofs.YtnckpnbecmmcpaaDoor
end
section
/- The indices that Crash leaves out; slices.IndexFunc and DeleteFunc over them. -/
namespace Go.Proofs.YtnckpnbecmmcpaaDoor
open Go.RowKit Go.Shelf Lib

theorem retB {a b : Bool} (h : a = b) : Ending.returned (.bool a) = .returned (.bool b) := by rw [h]
def outB (m : Nat) (i : Int) : Bool := decide (i < 0) || decide ((m : Int) ≤ i)
/-- What a search over an own row of integers needs: the row, and what the closure reads. -/
structure Srch (w : World) (base : Nat) (v : Value) (l : List Int) (C B m : Nat) : Prop where
  own : w.ownsRow base 3 1 v l.length (l.map (Value.int .i64))
  c : w.cell? ⟨C, 0, none⟩ = some (.pointer (some ⟨B, 0, none⟩))
  b : ∃ a c, w.cell? ⟨B, 4, none⟩ = some (.slice a m c)
def firstOut (m : Nat) (l : List Int) : Int := match l.findIdx? (outB m) with | none => -1 | some i => i
theorem findIdx_none {m : Nat} {l : List Int} (h : ∀ j, j < l.length → outB m (l.getD j 0) = false) : l.findIdx? (outB m) = none := by
  rw [List.findIdx?_eq_none_iff]
  intro x hx
  obtain ⟨j, hj, rfl⟩ := List.getElem_of_mem hx
  have := h j hj
  rw [List.getD_eq_getElem?_getD, List.getElem?_eq_getElem hj] at this
  exact this
theorem findIdx_at {m : Nat} {l : List Int} {k : Nat} (hk : k < l.length) (h1 : outB m (l.getD k 0) = true) (h : ∀ j, j < k → outB m (l.getD j 0) = false) : l.findIdx? (outB m) = some k := by
  rw [List.findIdx?_eq_some_iff_getElem]
  rw [List.getD_eq_getElem?_getD, List.getElem?_eq_getElem hk] at h1
  refine ⟨hk, h1, fun j hj => ?_⟩
  have := h j hj
  rw [List.getD_eq_getElem?_getD, List.getElem?_eq_getElem (by omega)] at this
  simpa using this
end Go.Proofs.YtnckpnbecmmcpaaDoor
end
section
/- slices.DeleteFunc over the indices that are out of bounds. -/
namespace Go.Proofs.YtnckpnbecmmcpaaDoor
open Go.RowKit Go.Shelf Lib

theorem zero3 (w : World) : (zeroValue 3).run Tryd.prog w = .ok (.int .i64 0) w := by kernel_rfl
/-- clear of the last elements of an own row of integers. -/
theorem run_clear_tail (w : World) (ty : TypeId) {base g n o cap c : Nat} {xs : List Value} (hown : w.ownsRow base 3 1 (.slice (some ⟨g, 0, none⟩) n cap) n xs) (ho : o < n) :
    ∃ w', (Builtin.clear_ #[152] ty #[.slice (some ⟨g, o, none⟩) (n - o) c]).run Tryd.prog w = .ok (.tuple #[]) w' ∧ w'.ownsRow base 3 1 (.slice (some ⟨g, 0, none⟩) o cap) o (xs.take o) ∧ w.grownBy w' (some g) := by
  rcases hown.2 with ⟨h1, -⟩ | ⟨g', cap', cur, h1, h2, h3, h4, h5, h6, h7⟩
  · cases h1
  · cases h1
    obtain ⟨k, hk⟩ : ∃ k, n - o = k + 1 := ⟨n - o - 1, by omega⟩
    have hlen : (Builtin.zeroCells (Value.int .i64 0).cells (k + 1)).toList.length = k + 1 := by simp [Builtin.zeroCells, Value.cells]
    have hone : ∀ x ∈ (Builtin.zeroCells (Value.int .i64 0).cells (k + 1)).toList, x.oneCell' = true := by
      intro x hx
      simp only [Builtin.zeroCells, Array.toList_map, Array.toList_range, List.mem_map, List.mem_range] at hx
      obtain ⟨i, hi, rfl⟩ := hx
      have : i % (Value.int .i64 0).cells.size = 0 := by simp [Value.cells, Nat.mod_one]
      rw [this]; rfl
    have hst := run_storeCells_at Tryd.prog g o 3 (Builtin.zeroCells (Value.int .i64 0).cells (k + 1)).toList 0 cur w h3 (by rw [hlen, h6]; omega) hone
    have hz := zero3
    generalize hzc : Builtin.zeroCells (Value.int .i64 0).cells (k + 1) = zc at hlen hone hst
    refine ⟨w.setRow g (cur.toList.take (o + 0) ++ zc.toList ++ cur.toList.drop (o + 0 + zc.toList.length)).toArray, ?_, ⟨by rw [List.length_take, hown.1]; omega, .inr ⟨g, cap, _, rfl, h2, setRow_heap w g cur _ 3 _ h3, by omega, h5, ?_, ?_⟩⟩, ⟨rfl, rfl, rfl, by simp, fun k hk hne => setRow_other w g k _ (fun e => hne (by rw [e]))⟩⟩
    · generalize (w.setRow g (cur.toList.take (o + 0) ++ zc.toList ++ cur.toList.drop (o + 0 + zc.toList.length)).toArray) = w' at hst ⊢
      rw [hk]
      simp [Builtin.clear_, run_underlying Tryd.underlying152, hz, hzc, hst]
    · simp [hlen, h6]; omega
    · rw [← h7]
      simp only [Nat.mul_one, Nat.add_zero, List.take_take]
      rw [List.append_assoc, List.take_append_of_le_length (by simp [h6]; omega), List.take_take, Nat.min_self, Nat.min_eq_left (by omega)]
def inL (m : Nat) (l : List Int) : List Int := l.filter fun x => !outB m x
theorem inL_snoc {m : Nat} {l : List Int} {k : Nat} {x : Int} (h : l[k]? = some x) : inL m (l.take (k + 1)) = inL m (l.take k) ++ if outB m x then [] else [x] := by
  unfold inL
  rw [List.take_add_one, h, List.filter_append]
  congr 1
  cases hq : outB m x <;> simp [hq]
theorem inL_le (m : Nat) (l : List Int) : (inL m l).length ≤ l.length := List.length_filter_le _ _
theorem first_none {m : Nat} {l : List Int} (h : l.findIdx? (outB m) = none) : inL m l = l := by
  unfold inL
  rw [List.filter_eq_self]
  intro x hx
  rw [List.findIdx?_eq_none_iff.1 h x hx]; rfl
theorem first_some {m : Nat} {l : List Int} {k : Nat} (h : l.findIdx? (outB m) = some k) : k < l.length ∧ inL m (l.take (k + 1)) = l.take k := by
  obtain ⟨hk, h1, h2⟩ := List.findIdx?_eq_some_iff_getElem.1 h
  refine ⟨hk, ?_⟩
  rw [inL_snoc (List.getElem?_eq_getElem hk), h1, if_pos rfl, List.append_nil]
  unfold inL
  rw [List.filter_eq_self]
  intro x hx
  obtain ⟨j, hj, rfl⟩ := List.getElem_of_mem hx
  have hj' : j < k := by rw [List.length_take] at hj; omega
  have := h2 j hj'
  rw [List.getElem_take]
  simpa using this
theorem keep_drop {cur l : List Int} {i j : Nat} {x : Int} (h : cur.drop j = l.drop j) (hij : i < j) : (cur.set i x).drop (j + 1) = l.drop (j + 1) := by
  have e : cur.drop (j + 1) = l.drop (j + 1) := by
    have := congrArg (List.drop 1) h
    simpa [List.drop_drop, Nat.add_comm] using this
  rw [← e]
  apply List.ext_getElem?
  intro q
  rw [List.getElem?_drop, List.getElem?_drop, List.getElem?_set_ne (by omega)]
theorem set_take {cur : List Int} {i : Nat} {x : Int} (hi : i < cur.length) : (cur.set i x).take (i + 1) = cur.take i ++ [x] := by
  apply List.ext_getElem?
  intro q
  rw [List.getElem?_take]
  by_cases hq : q < i
  · rw [if_pos (by omega), List.getElem?_set_ne (by omega), List.getElem?_append_left (by simp; omega), List.getElem?_take, if_pos hq]
  · by_cases hq2 : q = i
    · subst hq2
      rw [if_pos (by omega), List.getElem?_set_self hi, List.getElem?_append_right (by simp; omega)]
      simp [Nat.min_eq_left (Nat.le_of_lt hi)]
    · rw [if_neg (by omega), List.getElem?_eq_none (by simp; omega)]
end Go.Proofs.YtnckpnbecmmcpaaDoor
end
section
/- Which pending writes survive: sorted, without doubles, in bounds, is the same as asked one by one. -/
namespace Go.Proofs.YtnckpnbecmmcpaaDoor
open Go.RowKit Go.Shelf Lib

theorem eq_of_strict : ∀ {l m : List Int}, l.Pairwise (· < ·) → m.Pairwise (· < ·) → (∀ x, x ∈ l ↔ x ∈ m) → l = m := by
  intro l
  induction l with
  | nil =>
    intro m _ _ h
    cases m with
    | nil => rfl
    | cons y m => exact absurd ((h y).2 (by simp)) (by simp)
  | cons x l ih =>
    intro m hl hm h
    cases m with
    | nil => exact absurd ((h x).1 (by simp)) (by simp)
    | cons y m =>
      obtain ⟨h1, h2⟩ := List.pairwise_cons.1 hl
      obtain ⟨h3, h4⟩ := List.pairwise_cons.1 hm
      have hxy : x = y := by
        have a := (h x).1 (by simp)
        have b := (h y).2 (by simp)
        simp only [List.mem_cons] at a b
        rcases a with a | a
        · exact a
        · rcases b with b | b
          · exact b.symm
          · have := h3 x a; have := h1 y b; omega
      subst hxy
      congr 1
      refine ih h2 h4 (fun z => ⟨fun hz => ?_, fun hz => ?_⟩)
      · have a := (h z).1 (by simp [hz])
        simp only [List.mem_cons] at a
        rcases a with rfl | a
        · have := h1 z hz; omega
        · exact a
      · have a := (h z).2 (by simp [hz])
        simp only [List.mem_cons] at a
        rcases a with rfl | a
        · have := h3 z hz; omega
        · exact a
theorem sortI_pair (l : List Int) : (sortI l).Pairwise (· ≤ ·) := by
  have := List.pairwise_mergeSort (le := fun x y : Int => decide (x ≤ y)) (fun a b c h1 h2 => by simp at *; omega) (fun a b => by simp; omega) l
  exact this.imp (fun h => by simpa using h)
theorem sortI_mem (l : List Int) (x : Int) : x ∈ sortI l ↔ x ∈ l := by unfold sortI; exact List.mem_mergeSort
theorem compactUp_spec (zs : List Int) (hs : zs.Pairwise (· ≤ ·)) : ∀ m, m ≤ zs.length → (Lib.compactUpTo zs.toArray m).Pairwise (· < ·) ∧ (∀ x, x ∈ Lib.compactUpTo zs.toArray m ↔ ∃ j, j < m ∧ zs.getD j 0 = x) := by
  have hle : ∀ i j, i ≤ j → j < zs.length → zs.getD i 0 ≤ zs.getD j 0 := fun i j hij hj => by
    rcases Nat.lt_or_ge i j with h | h
    · have := List.pairwise_iff_getElem.1 hs i j (by omega) hj h
      rw [List.getD_eq_getElem?_getD, List.getD_eq_getElem?_getD, List.getElem?_eq_getElem hj, List.getElem?_eq_getElem (by omega)]
      exact this
    · obtain rfl : i = j := by omega
      exact Int.le_refl _
  have hget : ∀ j, j < zs.length → zs.toArray[j]! = zs.getD j 0 := fun j hj => by
    rw [getElem!_pos _ j (by simpa using hj)]
    rw [List.getD_eq_getElem?_getD, List.getElem?_eq_getElem hj]; rfl
  intro m
  induction m with
  | zero => intro _; exact ⟨by simp [Lib.compactUpTo], by simp [Lib.compactUpTo]⟩
  | succ m ih =>
    intro hm
    obtain ⟨i1, i2⟩ := ih (by omega)
    rw [Lib.compactUpTo_succ]
    by_cases h0 : m = 0
    · subst h0
      rw [Lib.keeps_lt_one _ 0 (by omega), if_pos rfl, hget 0 (by omega)]
      refine ⟨by simp [Lib.compactUpTo], fun x => ?_⟩
      simp [Lib.compactUpTo]
      exact eq_comm
    · have hprev : zs.getD (m - 1) 0 ≤ zs.getD m 0 := hle _ _ (by omega) (by omega)
      have e1 := hget m (by omega)
      have e2 := hget (m - 1) (by omega)
      by_cases hk : zs.getD m 0 = zs.getD (m - 1) 0
      · rw [Lib.keeps_neg (by omega) (by rw [e1, e2]; exact hk)]
        rw [if_neg (by decide), List.append_nil]
        refine ⟨i1, fun x => ?_⟩
        rw [i2]
        constructor
        · rintro ⟨j, hj, h⟩; exact ⟨j, by omega, h⟩
        · rintro ⟨j, hj, h⟩
          rcases Nat.lt_or_ge j m with h3 | h3
          · exact ⟨j, h3, h⟩
          · obtain rfl : j = m := by omega
            exact ⟨j - 1, by omega, by rw [← hk]; exact h⟩
      · rw [Lib.keeps_pos (by rw [e1, e2]; exact hk), if_pos rfl, e1]
        refine ⟨?_, fun x => ?_⟩
        · rw [List.pairwise_append]
          refine ⟨i1, by simp, fun a ha b hb => ?_⟩
          simp only [List.mem_singleton] at hb
          subst hb
          obtain ⟨j, hj, rfl⟩ := (i2 a).1 ha
          have := hle j (m - 1) (by omega) (by omega)
          omega
        · simp only [List.mem_append, List.mem_singleton, i2]
          constructor
          · rintro (⟨j, hj, h⟩ | h)
            · exact ⟨j, by omega, h⟩
            · exact ⟨m, by omega, h.symm⟩
          · rintro ⟨j, hj, h⟩
            rcases Nat.lt_or_ge j m with h3 | h3
            · exact .inl ⟨j, h3, h⟩
            · obtain rfl : j = m := by omega
              exact .inr h.symm
/-- The order in which the survivors are applied. -/
def ordI (m : Nat) (kl : List Int) : List Int := inL m (Lib.compact (sortI kl))
theorem ordI_eq (m : Nat) (kl : List Int) : ordI m kl = (keptI m kl).map fun i : Nat => (i : Int) := by
  have hs := compactUp_spec (sortI kl) (sortI_pair kl) (sortI kl).length (Nat.le_refl _)
  unfold ordI Lib.compact
  refine eq_of_strict ?_ ?_ (fun x => ?_)
  · unfold inL; exact hs.1.filter _
  · unfold keptI
    rw [List.pairwise_map]
    exact (List.pairwise_lt_range.filter _).imp (fun h => by omega)
  · unfold inL keptI
    simp only [List.mem_filter, List.mem_map, List.mem_range, hs.2, decide_eq_true_eq]
    have hm : (∃ j, j < (sortI kl).length ∧ (sortI kl).getD j 0 = x) ↔ x ∈ kl := by
      rw [← sortI_mem]
      constructor
      · rintro ⟨j, hj, rfl⟩
        rw [List.getD_eq_getElem?_getD, List.getElem?_eq_getElem hj]
        exact List.getElem_mem hj
      · intro h
        obtain ⟨j, hj, rfl⟩ := List.getElem_of_mem h
        exact ⟨j, hj, by rw [List.getD_eq_getElem?_getD, List.getElem?_eq_getElem hj]; rfl⟩
    rw [hm]
    have ho : (!outB m x) = true ↔ 0 ≤ x ∧ x < m := by unfold outB; simp
    rw [ho]
    constructor
    · rintro ⟨h1, h2, h3⟩
      exact ⟨x.toNat, ⟨by omega, by rw [Int.toNat_of_nonneg h2]; exact h1⟩, by omega⟩
    · rintro ⟨i, ⟨h1, h2⟩, rfl⟩
      exact ⟨h2, by omega, by omega⟩
theorem lastTorn_len (torn : Int) : ∀ l : List WrD, (lastTorn torn l).length = l.length := by
  intro l
  induction l with
  | nil => rfl
  | cons x l ih =>
    cases l with
    | nil => rfl
    | cons y l => simp only [lastTorn, List.length_cons] at ih ⊢; omega
theorem lastTorn_get (torn : Int) : ∀ (l : List WrD) (k : Nat) (w : WrD), l[k]? = some w → (lastTorn torn l)[k]? = some (if k + 1 = l.length then tornW torn w else w) := by
  intro l
  induction l with
  | nil => intro k w h; simp at h
  | cons x l ih =>
    intro k w h
    cases l with
    | nil =>
      cases k with
      | zero => simp at h; subst h; simp [lastTorn]
      | succ k => simp at h
    | cons y l =>
      cases k with
      | zero => simp at h; subst h; simp [lastTorn]
      | succ k =>
        have := ih k w (by simpa using h)
        simp only [lastTorn, List.getElem?_cons_succ]
        rw [this]
        congr 1
        simp
/-- The durable content when k of the survivors have been applied. -/
def durK (D : DiskD) (kl : List Int) (torn : Int) (k : Nat) : List UInt8 := ((lastTorn torn (keptW D kl)).take k).foldl ontoW D.dur
theorem durK_zero (D : DiskD) (kl : List Int) (torn : Int) : durK D kl torn 0 = D.dur := rfl
theorem keptW_get {D : DiskD} {kl : List Int} {k : Nat} {i : Nat} (h : (keptI D.pend.length kl)[k]? = some i) : (keptW D kl)[k]? = some (D.pend.getD i dW) ∧ i < D.pend.length := by
  refine ⟨by unfold keptW; rw [List.getElem?_map, h]; rfl, ?_⟩
  have := List.mem_of_getElem? h
  unfold keptI at this
  simp only [List.mem_filter, List.mem_range] at this
  exact this.1
theorem keptW_len (D : DiskD) (kl : List Int) : (keptW D kl).length = (keptI D.pend.length kl).length := by unfold keptW; simp
theorem durK_succ {D : DiskD} {kl : List Int} {torn : Int} {k i : Nat} (h : (keptI D.pend.length kl)[k]? = some i) :
    durK D kl torn (k + 1) = ontoW (durK D kl torn k) (if k + 1 = (keptI D.pend.length kl).length then tornW torn (D.pend.getD i dW) else D.pend.getD i dW) := by
  have h1 := lastTorn_get torn _ k _ (keptW_get h).1
  rw [keptW_len] at h1
  unfold durK
  rw [List.take_add_one, h1, List.foldl_append]; rfl
theorem durK_all (D : DiskD) (kl : List Int) (torn : Int) : durK D kl torn (keptI D.pend.length kl).length = crashB D kl torn := by
  unfold durK crashB
  rw [List.take_of_length_le (by rw [lastTorn_len, keptW_len]; exact Nat.le_refl _)]
theorem durK_len {n : Nat} {D : DiskD} (h : Inv n D) (kl : List Int) (torn : Int) (k : Nat) : (durK D kl torn k).length = n :=
  foldl_len _ _ h.dur (fun w hw => torn_fit (kept_fit h kl) w (List.mem_of_mem_take hw))
theorem keptI_len (m : Nat) (kl : List Int) : (keptI m kl).length ≤ m := by
  unfold keptI; exact Nat.le_trans (List.length_filter_le _ _) (by simp)
end Go.Proofs.YtnckpnbecmmcpaaDoor
end
section
/- package disk: Crash. -/
namespace Go.Proofs.YtnckpnbecmmcpaaDoor
open Go.RowKit Go.Shelf Lib

/-- Only the durable content has been written. -/
theorem DiskAt.durSet {W W' : World} {B bD bV : Nat} {vp : Value} {n : Nat} {D : DiskD} {x : List UInt8} (h : DiskAt W B bD bV vp n D) (hx : Blk W' bD (bcs x).toArray 5) (hf : Frm (fun k => k = bD) W W') : DiskAt W' B bD bV vp n { D with dur := x } :=
  ⟨h.box.frm hf h.neD, hx, h.vis.frm hf h.ne.symm, owned_kept h.pen (fun g hg => hf.block g (h.pen.lt g hg).2 (h.neP g hg).2.1), h.ne⟩
theorem DiskAt.pendCell {W : World} {B bD bV : Nat} {pa : Option Addr} {m c n : Nat} {D : DiskD} (h : DiskAt W B bD bV (.slice pa m c) n D) {i : Nat} (hi : i < D.pend.length) :
    ∃ pg, pa = some ⟨pg, 0, none⟩ ∧ W.cell? ⟨pg, i * 2, none⟩ = some (.int .i64 ((D.pend.getD i dW).off : Nat)) ∧ W.cell? ⟨pg, i * 2 + 1, none⟩ = some (.string (D.pend.getD i dW).s) := by
  obtain ⟨h1, h2⟩ := wcs_get (getD_some dW hi)
  rcases h.pen.2 with ⟨-, h0⟩ | ⟨g, cap, cur, e, -⟩
  · omega
  · cases e
    have a := h.pen.cells rfl _ _ h1
    have b := h.pen.cells rfl _ _ h2
    rw [add_zero_off] at a b
    exact ⟨g, rfl, a, b⟩
end Go.Proofs.YtnckpnbecmmcpaaDoor
end
section
/- A disk as a whole: all its calls, over what it owns. -/
namespace Go.Proofs.YtnckpnbecmmcpaaDoor
open Go.RowKit Go.Shelf Lib

/-- A disk of size n at block B in the state D; its blocks lie in F. -/
def OwnF (W : World) (B n : Nat) (D : DiskD) (F : Nat → Prop) : Prop := ∃ bD bV vp, DiskAt W B bD bV vp n D ∧ Inv n D ∧ ∀ k, Foot B bD bV vp k → F k
theorem OwnF.inv {W : World} {B n : Nat} {D : DiskD} {F : Nat → Prop} (h : OwnF W B n D F) : Inv n D := by obtain ⟨_, _, _, _, h, _⟩ := h; exact h
theorem OwnF.mono {W : World} {B n : Nat} {D : DiskD} {F G : Nat → Prop} (h : OwnF W B n D F) (hFG : ∀ k, k < W.heap.size → F k → G k) : OwnF W B n D G := by
  obtain ⟨a, b, c, h1, h2, h3⟩ := h; exact ⟨a, b, c, h1, h2, fun k hk => hFG k (h1.lt k hk) (h3 k hk)⟩
theorem OwnF.frm {W W' : World} {B n : Nat} {D : DiskD} {F G : Nat → Prop} (h : OwnF W B n D F) (hf : Frm G W W') (hFG : ∀ k, k < W.heap.size → F k → ¬ G k) : OwnF W' B n D F := by
  obtain ⟨a, b, c, h1, h2, h3⟩ := h; exact ⟨a, b, c, h1.frm hf (fun k hk => hFG k (h1.lt k hk) (h3 k hk)), h2, h3⟩
theorem OwnF.below {W W' : World} {B n : Nat} {D : DiskD} {F : Nat → Prop} (h : OwnF W B n D F) (hb : Below W.heap.size W W') : OwnF W' B n D F := h.frm (G := fun _ => False) (Frm.of_below hb) (fun _ _ _ h => h)
theorem OwnF.lt {W : World} {B n : Nat} {D : DiskD} {F : Nat → Prop} (h : OwnF W B n D F) : B < W.heap.size := by obtain ⟨_, _, _, h, _⟩ := h; exact h.box.lt
abbrev Own (base : Nat) (W : World) (B n : Nat) (D : DiskD) : Prop := OwnF W B n D (fun k => base ≤ k)
theorem Own.of {base : Nat} {W W' : World} {B n : Nat} {D : DiskD} (h : OwnF W' B n D (fun k => base ≤ k ∨ W.heap.size ≤ k)) (hb : base ≤ W.heap.size) : Own base W' B n D := h.mono (fun k _ hk => by rcases hk with hk | hk <;> omega)
theorem Frm.ownBelow {base : Nat} {W W' : World} (h : Frm (fun k => base ≤ k) W W') (hb : base ≤ W.heap.size) : Below base W W' := h.below hb (fun _ h => h)
section
variable {W : World} {B n : Nat} {D : DiskD} {F : Nat → Prop}
theorem size_f (h : OwnF W B n D F) : Calls Tryd.prog 21 #[.pointer (some ⟨B, 0, none⟩)] W fun e w' => e = .returned (.int .i64 (n : Nat)) ∧ W = w' := by obtain ⟨_, _, _, h, _⟩ := h; exact size_any h
theorem pending_f (h : OwnF W B n D F) : Calls Tryd.prog 17 #[.pointer (some ⟨B, 0, none⟩)] W fun e w' => e = .returned (.int .i64 (D.pend.length : Nat)) ∧ W = w' := by obtain ⟨_, _, _, h, _⟩ := h; exact pending_any h
theorem read_f (h : OwnF W B n D F) (off k : Int) : Calls Tryd.prog 20 #[.pointer (some ⟨B, 0, none⟩), .int .i64 off, .int .i64 k] W fun e w' => e = .returned (.tuple #[.string (readS D off k), .int .i64 (readE D off k)]) ∧ W = w' := by
  obtain ⟨_, _, _, h, hI, _⟩ := h; exact read_any h hI.dur hI.visLen hI.most off k
theorem cut_f (h : OwnF W B n D F) (k : Int) (hk : k ≤ 9223372036854775807) : Calls Tryd.prog 15 #[.pointer (some ⟨B, 0, none⟩), .int .i64 k] W fun e w' => e = .returned (.int .i64 (cutE D k)) ∧ OwnF w' B n (cutD D k) F ∧ Frm F W w' := by
  obtain ⟨bD, bV, vp, h, hI, hF⟩ := h
  refine (cut_any h k).mono ?_
  rintro e w' ⟨rfl, h1, h2⟩
  exact ⟨rfl, ⟨bD, bV, vp, h1, hI.cut k hk, hF⟩, h2.mono (fun i _ e => hF i (.inl e))⟩
theorem sync_f (h : OwnF W B n D F) : Calls Tryd.prog 26 #[.pointer (some ⟨B, 0, none⟩)] W fun e w' => e = .returned (.int .i64 (syncE D)) ∧ OwnF w' B n (syncD D) F ∧ Frm F W w' := by
  obtain ⟨bD, bV, vp, h, hI, hF⟩ := h
  refine (sync_any h hI.dur hI.visLen).mono ?_
  rintro e w' ⟨vp', rfl, h1, h2, h3⟩
  exact ⟨rfl, ⟨bD, bV, vp', h1, hI.sync, fun k hk => hF k (by rcases hk with hk | hk | hk | hk; exact .inl hk; exact .inr (.inl hk); exact .inr (.inr (.inl hk)); exact .inr (.inr (.inr (h2 ▸ hk))))⟩, h3.mono (fun i _ e => hF i e)⟩
theorem write_f (h : OwnF W B n D F) (hp : D.pend.length ≤ 1000000) (off : Int) (s : ByteArray) :
    Calls Tryd.prog 19 #[.pointer (some ⟨B, 0, none⟩), .int .i64 off, .string s] W fun e w' => e = .returned (.int .i64 (writeE D off s)) ∧ OwnF w' B n (writeD D off s) (fun k => F k ∨ W.heap.size ≤ k) ∧ Frm F W w' := by
  obtain ⟨bD, bV, vp, h, hI, hF⟩ := h
  by_cases he : writeE D off s = 0
  · refine (write_yes h hI hp off s he).mono ?_
    rintro e w' ⟨vp', rfl, h1, h2, h3⟩
    refine ⟨rfl, ⟨bD, bV, vp', h1, hI.write off s, fun k hk => ?_⟩, h3.mono (fun i _ e => hF i e)⟩
    rcases hk with hk | hk | hk | hk
    · exact .inl (hF k (.inl hk))
    · exact .inl (hF k (.inr (.inl hk)))
    · exact .inl (hF k (.inr (.inr (.inl hk))))
    · rcases h2 with h2 | ⟨g, hg, hs⟩
      · exact .inl (hF k (.inr (.inr (.inr (h2 ▸ hk)))))
      · rw [hg] at hk; cases hk; exact .inr hs
  · have hD : writeD D off s = D := by unfold writeD; rw [if_neg he]
    refine (write_no h hI.dur hI.most off s he).mono ?_
    rintro e w' ⟨rfl, rfl⟩
    rw [hD]
    exact ⟨rfl, ⟨bD, bV, vp, h, hI, fun k hk => .inl (hF k hk)⟩, Frm.refl _ _⟩
end
section
variable {base : Nat} {W : World} {B n : Nat} {D : DiskD}
theorem cut_own (h : Own base W B n D) (hb : base ≤ W.heap.size) (k : Int) (hk : k ≤ 9223372036854775807) : Calls Tryd.prog 15 #[.pointer (some ⟨B, 0, none⟩), .int .i64 k] W fun e w' => e = .returned (.int .i64 (cutE D k)) ∧ Own base w' B n (cutD D k) ∧ Below base W w' :=
  (cut_f h k hk).mono fun _ _ ⟨h1, h2, h3⟩ => ⟨h1, h2, h3.ownBelow hb⟩
theorem sync_own (h : Own base W B n D) (hb : base ≤ W.heap.size) : Calls Tryd.prog 26 #[.pointer (some ⟨B, 0, none⟩)] W fun e w' => e = .returned (.int .i64 (syncE D)) ∧ Own base w' B n (syncD D) ∧ Below base W w' :=
  (sync_f h).mono fun _ _ ⟨h1, h2, h3⟩ => ⟨h1, h2, h3.ownBelow hb⟩
theorem write_own (h : Own base W B n D) (hb : base ≤ W.heap.size) (hp : D.pend.length ≤ 1000000) (off : Int) (s : ByteArray) :
    Calls Tryd.prog 19 #[.pointer (some ⟨B, 0, none⟩), .int .i64 off, .string s] W fun e w' => e = .returned (.int .i64 (writeE D off s)) ∧ Own base w' B n (writeD D off s) ∧ Below base W w' :=
  (write_f h hp off s).mono fun _ _ ⟨h1, h2, h3⟩ => ⟨h1, Own.of h2 hb, h3.ownBelow hb⟩
theorem new_own (n : Nat) (w : World) (h1 : 1 ≤ n) (h2 : n ≤ 4194304) : Calls Tryd.prog 6 #[.int .i64 (n : Nat)] w fun e w' => ∃ B, e = .returned (.tuple #[.pointer (some ⟨B, 0, none⟩), .int .i64 0]) ∧ Own w.heap.size w' B n (newD n) ∧ Below w.heap.size w w' := by
  refine (new_yes n w h1 h2).mono ?_
  rintro e w' ⟨B, bD, bV, rfl, h, hB, hd, hv, hbl⟩
  refine ⟨B, rfl, ⟨bD, bV, _, h, Inv.new h1 h2, ?_⟩, hbl⟩
  rintro k (rfl | rfl | rfl | hk)
  · exact hB
  · exact hd
  · exact hv
  · cases hk
end
end Go.Proofs.YtnckpnbecmmcpaaDoor
end
section
/- A disk with power, without a scheduled loss: what its calls do; a disk beside bytes of the caller's. -/
namespace Go.Proofs.YtnckpnbecmmcpaaDoor
open Go.RowKit Go.Shelf Lib

structure OnD (n : Nat) (D : DiskD) : Prop where
  inv : Inv n D
  on : D.off = false
  left : D.left = 0
theorem on_new {n : Nat} (h : 1 ≤ n) (h2 : n ≤ 4194304) : OnD n (newD n) := ⟨Inv.new h h2, rfl, rfl⟩
theorem on_write {n : Nat} {D : DiskD} (h : OnD n D) (o : Nat) (s : ByteArray) (hf : o + s.size ≤ n) :
    writeE D o s = 0 ∧ OnD n (writeD D o s) ∧ (writeD D o s).vis = putB D.vis o (bts s) ∧ (writeD D o s).dur = D.dur ∧ (writeD D o s).pend = D.pend ++ [⟨o, s⟩] := by
  have e : writeE D o s = 0 := by
    unfold writeE
    rw [h.on, h.inv.dur]
    have : insideB n (o : Int) (s.size : Int) = true := inside_iff.2 ⟨by omega, by omega, by omega, by omega⟩
    rw [this]; rfl
  have e2 : writeD D o s = { D with pend := D.pend ++ [⟨o, s⟩], vis := putB D.vis o (bts s) } := by
    unfold writeD usedD
    rw [if_pos e]
    simp only [h.left, if_pos, Int.toNat_natCast]
  refine ⟨e, ⟨h.inv.write _ _, by rw [e2]; exact h.on, by rw [e2]; exact h.left⟩, by rw [e2], by rw [e2], by rw [e2]⟩
theorem on_sync {n : Nat} {D : DiskD} (h : OnD n D) : syncE D = 0 ∧ OnD n (syncD D) ∧ (syncD D).vis = D.vis ∧ (syncD D).dur = D.vis ∧ (syncD D).pend = [] := by
  have e : syncD D = { D with dur := D.vis, pend := [] } := by unfold syncD; rw [h.on]; rfl
  exact ⟨by unfold syncE; rw [h.on]; rfl, ⟨h.inv.sync, by rw [e]; exact h.on, by rw [e]; exact h.left⟩, by rw [e], by rw [e], by rw [e]⟩
def strOf (b : List UInt8) : ByteArray := ⟨b.toArray⟩
theorem on_read {n : Nat} {D : DiskD} (h : OnD n D) : readE D 0 n = 0 ∧ readS D 0 n = strOf D.vis := by
  have e : readE D 0 n = 0 := by
    unfold readE
    rw [h.on, h.inv.dur]
    have : insideB n (0 : Int) (n : Int) = true := inside_iff.2 ⟨by omega, by omega, by omega, by omega⟩
    rw [this]; rfl
  refine ⟨e, ?_⟩
  unfold readS strOf
  rw [if_pos e]
  congr 2
  simp
  exact List.take_of_length_le (Nat.le_of_eq h.inv.visLen)
theorem on_crash {n : Nat} {D : DiskD} (h : OnD n D) (kl : List Int) (torn : Int) : OnD n (crashD D kl torn) := ⟨h.inv.crash kl torn, rfl, rfl⟩
theorem conv_all {w : World} {g n : Nat} {b : List UInt8} (hg : Blk w g (bcs b).toArray 5) (hb : b.length = n) : (convert 38 9 (.slice (some ⟨g, 0, none⟩) n n)).run Tryd.prog w = .ok (.string (strOf b)) w := by
  have := conv_bytes (w := w) (c := n) hg (o := 0) (k := n) (by omega) ⟨g, 0, none⟩ (fun _ => rfl) ⟨_, _, rfl⟩
  rw [this]
  unfold subS strOf
  rw [List.drop_zero, List.take_of_length_le (by omega)]
section
variable {W : World} {B n : Nat} {D : DiskD} {F : Nat → Prop}
theorem write_F (h : OwnF W B n D F) (hF : ∀ k, W.heap.size ≤ k → F k) (hp : D.pend.length ≤ 1000000) (off : Int) (s : ByteArray) :
    Calls Tryd.prog 19 #[.pointer (some ⟨B, 0, none⟩), .int .i64 off, .string s] W fun e w' => e = .returned (.int .i64 (writeE D off s)) ∧ OwnF w' B n (writeD D off s) F ∧ Frm F W w' := by
  refine (write_f h hp off s).mono ?_
  rintro e w' ⟨h1, h2, h3⟩
  exact ⟨h1, h2.mono (fun k _ hk => hk.elim id (hF k)), h3⟩
end
/-- All blocks from base on, without one. -/
def Bes (base g : Nat) (k : Nat) : Prop := base ≤ k ∧ k ≠ g
theorem Frm.besBelow {base g : Nat} {W W' : World} (h : Frm (Bes base g) W W') (hb : base ≤ W.heap.size) : Below base W W' := h.below hb (fun _ h => h.1)
end Go.Proofs.YtnckpnbecmmcpaaDoor
end
section
/- Crashes without survivors, and with all of them. -/
namespace Go.Proofs.YtnckpnbecmmcpaaDoor
open Go.RowKit Go.Shelf Lib

theorem crashD_nil (D : DiskD) (torn : Int) : (crashD D [] torn).dur = D.dur ∧ (crashD D [] torn).vis = D.dur ∧ (crashD D [] torn).pend = [] := by
  have : keptW D [] = [] := by unfold keptW keptI; simp
  have h2 : crashB D [] torn = D.dur := by unfold crashB; rw [this]; rfl
  exact ⟨h2, h2, rfl⟩
abbrev allI (m : Nat) : List Int := (List.range m).map (fun i : Nat => (i : Int))
theorem lastTorn_neg : ∀ l : List WrD, lastTorn (-1) l = l := by
  intro l
  induction l with
  | nil => rfl
  | cons w l ih =>
    cases l with
    | nil => rfl
    | cons x l => show w :: lastTorn (-1) (x :: l) = _; rw [ih]
theorem keptW_all (D : DiskD) : keptW D (allI D.pend.length) = D.pend := by
  unfold keptW
  have : keptI D.pend.length (allI D.pend.length) = List.range D.pend.length := by
    unfold keptI
    refine List.filter_eq_self.2 (fun i hi => ?_)
    simp at hi ⊢
    exact ⟨i, hi, rfl⟩
  rw [this]
  refine List.ext_getElem? fun i => ?_
  by_cases hi : i < D.pend.length
  · rw [List.getElem?_map, List.getElem?_range hi, List.getElem?_eq_getElem hi]
    simp [List.getElem?_eq_getElem hi]
  · rw [List.getElem?_eq_none (by simp; omega), List.getElem?_eq_none (by omega)]
theorem crash_all {n : Nat} {D : DiskD} (h : Inv n D) : (crashD D (allI D.pend.length) (-1)).vis = D.vis ∧ (crashD D (allI D.pend.length) (-1)).dur = D.vis := by
  have : crashB D (allI D.pend.length) (-1) = D.vis := by unfold crashB; rw [keptW_all, lastTorn_neg, h.vis]
  exact ⟨this, this⟩
theorem ints_nil (W : World) : IntsAt W (.slice none 0 0) [] := ⟨none, 0, rfl, Nat.le_refl _, by unfold maxLen; omega, fun h => absurd h (by simp)⟩
theorem allI_succ (m : Nat) : allI (m + 1) = allI m ++ [(m : Int)] := by unfold allI; rw [List.range_succ, List.map_append]; rfl
theorem allI_len (m : Nat) : (allI m).length = m := by simp
end Go.Proofs.YtnckpnbecmmcpaaDoor
end
section
/- A disk beside an own row of the caller's; a disk whose power is cut after some writes. -/
namespace Go.Proofs.YtnckpnbecmmcpaaDoor
open Go.RowKit Go.Shelf Lib

section
variable {W : World} {B n : Nat} {D : DiskD} {F : Nat → Prop}
/-- A disk's blocks differ from a block of another type. -/
theorem OwnF.away (h : OwnF W B n D F) {x : Nat} {cs : Array Value} {t : TypeId} (hx : Blk W x cs t) (h1 : t ≠ 51) (h2 : t ≠ 5) (h3 : t ≠ 76) : OwnF W B n D (fun k => F k ∧ k ≠ x) := by
  obtain ⟨bD, bV, vp, a, b, c⟩ := h
  refine ⟨bD, bV, vp, a, b, fun k hk => ⟨c k hk, ?_⟩⟩
  rcases hk with rfl | rfl | rfl | hk
  · exact a.box.ne hx h1.symm
  · exact a.dur.ne hx h2.symm
  · exact a.vis.ne hx h2.symm
  · obtain ⟨cur, hb, -⟩ := owned_block a.pen hk
    exact hb.ne hx h3.symm
theorem OwnF.awayRow (h : OwnF W B n D F) {base : Nat} {t : TypeId} {sz m : Nat} {v : Value} {xs : List Value} (hr : W.ownsRow base t sz v m xs) (h1 : t ≠ 51) (h2 : t ≠ 5) (h3 : t ≠ 76) : OwnF W B n D (fun k => F k ∧ v.ownBlock ≠ some k) := by
  cases hv : v.ownBlock with
  | none => exact h.mono (fun k _ hk => ⟨hk, by simp⟩)
  | some g =>
    obtain ⟨cur, hb, -⟩ := owned_block hr hv
    exact (h.away hb h1 h2 h3).mono (fun k _ hk => ⟨hk.1, fun e => hk.2 (Option.some.inj e).symm⟩)
end
/-- A disk whose power is cut after c writes, after k writes were tried. -/
structure CutI (n c k : Nat) (D : DiskD) : Prop where
  inv : Inv n D
  len : D.pend.length = min k c
  off : D.off = decide (c ≤ k)
  left : D.left = ((c - k : Nat) : Int)
theorem cutI_start {n c : Nat} (h : 1 ≤ n) (h2 : n ≤ 4194304) (hc : c < 1000) :
    cutE (newD n) ((c + 5 : Nat) : Int) = 0 ∧ cutE (cutD (newD n) ((c + 5 : Nat) : Int)) (c : Int) = 0 ∧ CutI n c 0 (cutD (cutD (newD n) ((c + 5 : Nat) : Int)) (c : Int)) ∧ (cutD (cutD (newD n) ((c + 5 : Nat) : Int)) (c : Int)).vis = List.replicate n 0 := by
  have e1 : cutE (newD n) ((c + 5 : Nat) : Int) = 0 := by
    unfold cutE newD
    simp
    omega
  have d1 : cutD (newD n) ((c + 5 : Nat) : Int) = { newD n with off := false, left := ((c + 5 : Nat) : Int) } := by
    unfold cutD
    rw [if_pos e1]
    congr 1
  have e2 : cutE (cutD (newD n) ((c + 5 : Nat) : Int)) (c : Int) = 0 := by
    rw [d1]; unfold cutE; simp
  have i2 : Inv n (cutD (cutD (newD n) ((c + 5 : Nat) : Int)) (c : Int)) := ((Inv.new h h2).cut _ (by omega)).cut _ (by omega)
  have d2 : cutD (cutD (newD n) ((c + 5 : Nat) : Int)) (c : Int) = { newD n with off := decide ((c : Int) = 0), left := (c : Int) } := by
    rw [cutD, if_pos e2, d1]
  refine ⟨e1, e2, ⟨i2, by rw [d2]; show 0 = _; omega, ?_, by rw [d2]; simp⟩, by rw [d2]; rfl⟩
  rw [d2]
  show decide _ = decide _
  simp
theorem CutI.yes {n c k : Nat} {D : DiskD} (h : CutI n c k D) (hk : k < c) (o : Nat) (s : ByteArray) (hf : o + s.size ≤ n) :
    writeE D o s = 0 ∧ CutI n c (k + 1) (writeD D o s) ∧ (writeD D o s).vis = putB D.vis o (bts s) := by
  have hoff : D.off = false := by rw [h.off]; simp; omega
  have e : writeE D o s = 0 := by
    unfold writeE
    rw [hoff, h.inv.dur]
    have : insideB n (o : Int) (s.size : Int) = true := inside_iff.2 ⟨by omega, by omega, by omega, by omega⟩
    rw [this]; rfl
  have hl : D.left ≠ 0 := by rw [h.left]; omega
  have e2 : writeD D o s = { D with pend := D.pend ++ [⟨o, s⟩], vis := putB D.vis o (bts s), left := D.left - 1, off := decide (D.left - 1 = 0) } := by
    unfold writeD usedD
    rw [if_pos e, if_neg hl]
    simp only [Int.toNat_natCast]
  refine ⟨e, ⟨h.inv.write _ _, ?_, ?_, ?_⟩, by rw [e2]⟩
  · rw [e2]; show (D.pend ++ _).length = _; rw [List.length_append, h.len]; simp; omega
  · rw [e2]; show decide _ = _; rw [h.left]; congr 1; exact propext ⟨fun _ => by omega, fun _ => by omega⟩
  · rw [e2]; show D.left - 1 = _; rw [h.left]; omega
theorem CutI.no {n c k : Nat} {D : DiskD} (h : CutI n c k D) (hk : c ≤ k) (o : Nat) (s : ByteArray) :
    writeE D o s = 331 ∧ writeD D o s = D ∧ CutI n c (k + 1) D := by
  have hoff : D.off = true := by rw [h.off]; simp; omega
  have e : writeE D o s = 331 := by unfold writeE; rw [hoff]; rfl
  refine ⟨e, by unfold writeD; rw [if_neg (by rw [e]; decide)], h.inv, by rw [h.len]; omega, ?_, by rw [h.left]; omega⟩
  rw [hoff]; symm; simp; omega
theorem CutI.stop {n c k : Nat} {D : DiskD} (h : CutI n c k D) (hk : c ≤ k) : D.pend.length = c ∧ readE D 0 0 = 331 ∧ syncE D = 331 ∧ syncD D = D ∧ cutE D 3 = 331 ∧ cutD D 3 = D := by
  have hoff : D.off = true := by rw [h.off]; simp; omega
  have e : cutE D 3 = 331 := by unfold cutE; rw [hoff]; rfl
  refine ⟨by rw [h.len]; omega, by unfold readE; rw [hoff]; rfl, by unfold syncE; rw [hoff]; rfl, by unfold syncD; rw [hoff]; rfl, e, by unfold cutD; rw [if_neg (by rw [e]; decide)]⟩
theorem CutI.go {n c k : Nat} {D : DiskD} (h : CutI n c k D) (hk : k < c) : syncE D = 0 := by
  have hoff : D.off = false := by rw [h.off]; simp; omega
  unfold syncE; rw [hoff]; rfl
theorem inv_crash {n : Nat} {D : DiskD} (h : Inv n D) (kl : List Int) (torn : Int) : OnD n (crashD D kl torn) := ⟨h.crash kl torn, rfl, rfl⟩
/-- A content beside the disk: base, without the block of it. -/
def Bes2 (base g : Nat) (v : Value) (k : Nat) : Prop := (base ≤ k ∧ k ≠ g) ∧ v.ownBlock ≠ some k
end Go.Proofs.YtnckpnbecmmcpaaDoor
end
section
/- Bytes put one by one. -/
namespace Go.Proofs.YtnckpnbecmmcpaaDoor
open Go.RowKit

theorem wrapS (n : Int) (h₀ : -9223372036854775808 ≤ n) (h₁ : n ≤ 9223372036854775807) : IntKind.i64.wrap n = n := by rw [IntKind.wrap_i64]; omega
def InR (c : Int) : Prop := -9223372036854775808 ≤ c ∧ c ≤ 9223372036854775807
theorem putB_zero (b : List UInt8) (o : Nat) : putB b o [] = b := by simp [putB]
theorem putB_step (b : List UInt8) (o k : Nat) (l : List UInt8) (hk : k < l.length) (hf : o + l.length ≤ b.length) : (putB b o (l.take k)).set (o + k) (l.getD k 0) = putB b o (l.take (k + 1)) := by
  apply List.ext_getElem?
  intro i
  have h1 : (l.take k).length = k := by simp; omega
  have h2 : (l.take (k + 1)).length = k + 1 := by simp; omega
  have hl1 : (putB b o (l.take k)).length = b.length := putB_len (by omega)
  have hl2 : (putB b o (l.take (k + 1))).length = b.length := putB_len (by omega)
  by_cases hi : i < b.length
  · rw [putB_get (by omega) i hi, h2]
    by_cases he : i = o + k
    · subst he
      rw [List.getElem?_set_self (by omega), if_pos (by omega), List.getElem?_take, if_pos (by omega), Nat.add_sub_cancel_left, getD_some 0 hk]
    · rw [List.getElem?_set_ne (by omega), putB_get (by omega) i hi, h1]
      by_cases hin : o ≤ i ∧ i < o + k
      · rw [if_pos hin, if_pos (by omega), List.getElem?_take, List.getElem?_take, if_pos (by omega), if_pos (by omega)]
      · rw [if_neg hin, if_neg (by omega)]
  · rw [List.getElem?_eq_none (by simp; omega), List.getElem?_eq_none (by omega)]
end Go.Proofs.YtnckpnbecmmcpaaDoor
end
