/- Texts Flat, RowApp, P16, Out, P20 in one. -/
import Derived.Test.YtblmpmapcdpaiaaB2
import Derived.Test.YtblmpmapcdpaiaaB3
import Derived.Deep.RegionLawGrows
import Derived.ArgAppend
section
/- The cells of a slice of structs, one after the other. -/
namespace Go.Proofs.Ytblmpmapcdpaiaa
open Go.RowKit

def FlatC {α : Type} (n : Nat) (R : World → List Value → α → Prop) (W : World) : List Value → List α → Prop
  | cs, [] => cs = []
  | cs, y :: l => ∃ ds rest, cs = ds ++ rest ∧ ds.length = n ∧ R W ds y ∧ FlatC n R W rest l
section
variable {α : Type} {n : Nat} {R : World → List Value → α → Prop} {W : World}
theorem FlatC.len : ∀ {l : List α} {cs : List Value}, FlatC n R W cs l → cs.length = l.length * n := by
  intro l
  induction l with
  | nil => intro cs h; rw [show cs = [] from h]; simp
  | cons y l ih =>
    rintro cs ⟨ds, rest, rfl, h1, -, h⟩
    rw [List.length_append, ih h, h1, List.length_cons, Nat.succ_mul]; omega
theorem FlatC.app : ∀ {l m : List α} {cs ds : List Value}, FlatC n R W cs l → FlatC n R W ds m → FlatC n R W (cs ++ ds) (l ++ m) := by
  intro l
  induction l with
  | nil => intro m cs ds h k; rw [show cs = [] from h]; exact k
  | cons y l ih =>
    rintro m cs ds ⟨es, rest, rfl, h1, h2, h⟩ k
    exact ⟨es, rest ++ ds, by rw [List.append_assoc], h1, h2, ih h k⟩
theorem FlatC.one {cs : List Value} {y : α} (h1 : cs.length = n) (h2 : R W cs y) : FlatC n R W cs [y] := ⟨cs, [], by simp, h1, h2, rfl⟩
theorem FlatC.imp {W' : World} (hR : ∀ cs y, R W cs y → R W' cs y) : ∀ {l : List α} {cs : List Value}, FlatC n R W cs l → FlatC n R W' cs l := by
  intro l
  induction l with
  | nil => intro cs h; exact h
  | cons y l ih =>
    rintro cs ⟨ds, rest, rfl, h1, h2, h⟩
    exact ⟨ds, rest, rfl, h1, hR _ _ h2, ih h⟩
theorem FlatC.to {R' : World → List Value → α → Prop} {W' : World} (hR : ∀ cs y, R W cs y → R' W' cs y) : ∀ {l : List α} {cs : List Value}, FlatC n R W cs l → FlatC n R' W' cs l := by
  intro l
  induction l with
  | nil => intro cs h; exact h
  | cons y l ih =>
    rintro cs ⟨ds, rest, rfl, h1, h2, h⟩
    exact ⟨ds, rest, rfl, h1, hR _ _ h2, ih h⟩
theorem FlatC.get : ∀ {l : List α} {cs : List Value}, FlatC n R W cs l → ∀ (j : Nat) (y : α), l[j]? = some y → ∃ ds, ds.length = n ∧ (∀ i c, ds[i]? = some c → cs[j * n + i]? = some c) ∧ R W ds y := by
  intro l
  induction l with
  | nil => intro cs h j s hj; simp at hj
  | cons x l ih =>
    rintro cs ⟨es, rest, rfl, h1, h2, h⟩ j y hj
    cases j with
    | zero =>
      simp at hj; subst hj
      refine ⟨es, h1, fun i c hc => ?_, h2⟩
      have hi : i < es.length := by
        refine Classical.byContradiction fun hcc => ?_
        rw [List.getElem?_eq_none (by omega)] at hc; cases hc
      rw [Nat.zero_mul, Nat.zero_add, List.getElem?_append_left hi]; exact hc
    | succ j =>
      obtain ⟨ds, d1, d2, d3⟩ := ih h j y (by simpa using hj)
      refine ⟨ds, d1, fun i c hc => ?_, d3⟩
      rw [List.getElem?_append_right (by rw [h1, Nat.succ_mul]; omega), h1, show (j + 1) * n + i - n = j * n + i from by rw [Nat.succ_mul]; omega]
      exact d2 i c hc
/-- A slice of structs' own row is a slice of structs. -/
theorem flat_view {base e : Nat} {v : Value} {cs : List Value} {l : List α} (h : W.ownsRow base e n v l.length cs) (hs : FlatC n R W cs l) : StructsOf n R W v l := by
  rcases h.2 with ⟨rfl, hn⟩ | ⟨g, cap, cur, rfl, hb, hg, h1, h2, -⟩
  · exact ⟨none, 0, by rw [hn], by omega, by unfold maxLen; omega, fun hl => by omega⟩
  · refine ⟨_, cap, rfl, h1, h2, fun _ => ⟨g, 0, rfl, fun j s hj => ?_⟩⟩
    obtain ⟨ds, d1, d2, d3⟩ := hs.get j s hj
    refine ⟨ds, d1, fun i c hc => ?_, d3⟩
    have := h.cells rfl (j * n + i) c (d2 i c hc)
    rw [add_zero_off] at this
    simpa using this
/-- Every slice of structs has its cells. -/
theorem flat_cells {b off : Nat} : ∀ {l : List α} (k : Nat), (∀ j y, l[j]? = some y → ∃ cs, cs.length = n ∧ (∀ i c, cs[i]? = some c → W.cell? ⟨b, off + (k + j) * n + i, none⟩ = some c) ∧ R W cs y) →
    ∃ cs, FlatC n R W cs l ∧ ∀ i c, cs[i]? = some c → W.cell? ⟨b, off + k * n + i, none⟩ = some c := by
  intro l
  induction l with
  | nil => intro k _; exact ⟨[], rfl, fun i c h => by simp at h⟩
  | cons y l ih =>
    intro k h
    obtain ⟨ds, d1, d2, d3⟩ := h 0 y rfl
    obtain ⟨cs, c1, c2⟩ := ih (k + 1) (fun j y hj => by
      obtain ⟨cs, e1, e2, e3⟩ := h (j + 1) y (by simpa using hj)
      refine ⟨cs, e1, fun i c hc => ?_, e3⟩
      have := e2 i c hc
      rwa [show k + (j + 1) = k + 1 + j from by omega] at this)
    refine ⟨ds ++ cs, ⟨ds, cs, rfl, d1, d3, c1⟩, fun i c hc => ?_⟩
    by_cases hi : i < ds.length
    · rw [List.getElem?_append_left hi] at hc
      have := d2 i c hc
      rwa [Nat.add_zero] at this
    · rw [List.getElem?_append_right (by omega)] at hc
      have := c2 (i - ds.length) c hc
      rw [show off + k * n + i = off + (k + 1) * n + (i - ds.length) from by rw [Nat.succ_mul]; omega]
      exact this
theorem StructsOf.flat {a : Option Addr} {len cap : Nat} {l : List α} (h : StructsOf n R W (.slice a len cap) l) :
    ∃ cs, FlatC n R W cs l ∧ ∀ p, a = some p → ∀ i c, cs[i]? = some c → W.cell? (p.add i) = some c := by
  obtain ⟨a', cap', e, h2, h3, h4⟩ := h
  cases e
  by_cases hl : 0 < l.length
  · obtain ⟨b, off, rfl, h5⟩ := h4 hl
    obtain ⟨cs, c1, c2⟩ := flat_cells (b := b) (off := off) (W := W) (n := n) (R := R) (l := l) 0 (fun j y hj => by
      have := h5 j y hj
      simpa using this)
    refine ⟨cs, c1, fun p hp i c hc => ?_⟩
    cases hp
    have := c2 i c hc
    rw [Nat.zero_mul, Nat.add_zero] at this
    rw [show (⟨b, off, none⟩ : Addr).add i = ⟨b, off + i, none⟩ from by unfold Addr.add; split <;> simp_all]
    exact this
  · obtain rfl : l = [] := List.eq_nil_of_length_eq_zero (by omega)
    exact ⟨[], rfl, fun p _ i c hc => by simp at hc⟩
theorem StructsOf.none {len cap : Nat} {l : List α} (h : StructsOf n R W (.slice none len cap) l) : l = [] := by
  obtain ⟨a', cap', e, h2, h3, h4⟩ := h
  cases e
  refine List.eq_nil_of_length_eq_zero (Nat.eq_zero_of_not_pos fun hl => ?_)
  obtain ⟨b, off, e, -⟩ := h4 hl
  cases e
end
end Go.Proofs.Ytblmpmapcdpaiaa
end
section
/- Appending a row to a slice of rows that is full, as a step of a region that draws. -/
namespace Go.Proofs.Ytblmpmapcdpaiaa
open Go.RowKit Go.Shelf Lib

theorem E27 : ElemOK Try.prog 27 26 (.agg #[.int .i64 0, .int .i64 0, .int .i64 0, .int .i64 0, .slice none 0 0, .int .i64 0]) 6 64 := ⟨Try.underlying27, by kernel_rfl, rfl, by decide⟩
theorem below_grown {w w' : World} (h : w.grownBy w' none) : Below w.heap.size w w' := (Below.refl _ w).grown h (Nat.le_refl _) (fun k e => by cases e)
theorem step_rows {ops : Array Oper} {o : Oper} {a : Act} {w : World} {K : Act → World → Prop} {Q : Exit → Act → World → Prop} {E : Prop}
    (hg : o.guard = none) (s x : Operand) (hop : o.op = Op.call { callee := Callee.builtin Builtin.append, args := #[s, x], argTypes := #[27, 27] })
    {ra : Option Addr} {cap B : Nat} {rows : List RowD} {r : RowD} (hrows : RowsAt w (.slice ra rows.length cap) rows) (hs : a.eval s = .slice ra rows.length rows.length)
    (cs : Array Value) (hx : a.eval x = .slice (some ⟨B, 0, none⟩) 1 1) (hb : Blk w B cs 26) (hr : RowCs w cs.toList r) (h1 : ∀ u ∈ cs.toList, u.oneCell' = true) (hn : rows.length ≤ 1000)
    (hK : ∀ a' cap' w', RowsAt w' (.slice a' (rows.length + 1) cap') (rows ++ [r]) → Below w.heap.size w w' → K (a.put o.dst (.slice a' (rows.length + 1) cap')) w') :
    if Region.wanted o (yielded ops a.tmps) = true then Oper.wp Try.prog o a w K Q else E := by
  obtain ⟨i, hi, hz0, hz1, hz2⟩ := info_parts E27.info
  obtain ⟨olds, ho1, ho2⟩ := hrows.flat
  have h6 : cs.toList.length = 6 := by obtain ⟨vc, e, -⟩ := hr; rw [e]; rfl
  refine step_append_grows hg s x 27 hop 26 i _ 6 64 E27.und hi hz0 hz1 hz2 E27.zs E27.pos ra rows.length rows.length olds hs ?_ ho1.len ho2 ⟨B, 0, none⟩ 1 1 cs.toList hx (by rw [h6]) ?_ h1 (by omega) (by unfold maxLen; omega) (by omega) ?_
  · rintro rfl
    rw [hrows.none]; exact ⟨rfl, rfl⟩
  · intro j u hj
    rw [add_zero_off]
    exact (hb.cell j).trans (by simpa using hj)
  · intro v' w' hown hgrow
    have hB := below_grown hgrow
    have hv := flat_view (l := rows ++ [r]) (R := RowCs) (by simpa using hown) ((ho1.imp (fun cs y h => h.below hB)).app (FlatC.one h6 (hr.below hB)))
    obtain ⟨a', cap', e, -, -⟩ := hv.len
    subst e
    have := hK a' cap' w' (by unfold RowsAt; simpa using hv) hB
    simpa using this
end Go.Proofs.Ytblmpmapcdpaiaa
end
section
/- slices.Clone, slices.BinarySearch on integers. -/
namespace Go.Proofs.Ytblmpmapcdpaiaa
open Go.RowKit Lib

theorem SliceOf.cells {α : Type} {f : α → Value} {w : World} {p : Addr} {len cap : Nat} {l : List α} (h : SliceOf f w (.slice (some p) len cap) l) : ∀ j u, (l.map f)[j]? = some u → w.cell? (p.add j) = some u := by
  intro j u hj
  obtain ⟨a', c, e, h1, h2, h3⟩ := h
  cases e
  rw [List.getElem?_map] at hj
  cases hy : l[j]? with
  | none => rw [hy] at hj; cases hj
  | some y =>
    rw [hy] at hj
    have hl : 0 < l.length := by
      refine Classical.byContradiction fun hc => ?_
      rw [List.getElem?_eq_none (by omega)] at hy; cases hy
    obtain ⟨b, off, e, h4⟩ := h3 hl
    cases e
    rw [addr_add]
    cases hj
    exact h4 j y hy
theorem E24w : Try.prog.underlying 24 = some (.slice 3) := E24.und
theorem ownsRow_base {w : World} {B B' : Nat} {e : TypeId} {k : Nat} {v : Value} {n : Nat} {xs : List Value} (h : w.ownsRow B e k v n xs) (hB : B' ≤ B) : w.ownsRow B' e k v n xs :=
  ⟨h.1, h.2.imp_right fun ⟨g, cap, cur, h1, h2, h3⟩ => ⟨g, cap, cur, h1, Nat.le_trans hB h2, h3⟩⟩
set_option maxRecDepth 100000 in
set_option maxHeartbeats 1000000 in
theorem clone_own (v : Value) (l : List Int) (w : World) (hv : IntsAt w v l) (hl : l.length ≤ 1000000000) :
    Calls Try.prog 78 #[v] w fun e w' => ∃ v', e = .returned v' ∧ w'.ownsRow w.heap.size 3 1 v' l.length (l.map (Value.int .i64)) ∧ Below w.heap.size w w' := by
  have HV := Lib.hid hv
  obtain ⟨a, cap, rfl, h1, h2⟩ := hv.len
  clear hv
  cases a with
  | none =>
    have hnil : l = [] := by
      obtain ⟨a', c, e, g1, g2, g3⟩ := HV.out
      cases e
      refine List.eq_nil_of_length_eq_zero (Nat.eq_zero_of_not_pos fun hl => ?_)
      obtain ⟨b, off, e, -⟩ := g3 hl
      cases e
    subst hnil
    have he : ∀ w : World, (binOp .eql 24 (.slice none 0 cap) (.slice none 0 0)).run Try.prog w = .ok (.bool true) w := fun _ => rfl
    go_enter Try.func78, Try.ntmps78
    go_wp2
    go_ret
    exact ⟨_, rfl, World.ownsRow_nil _ _ _ _, Below.refl _ _⟩
  | some ad =>
    obtain ⟨i, hi, hz0, hz1, hz2⟩ := info_parts E24.info
    have he : ∀ w : World, (binOp .eql 24 (.slice (some ad) l.length cap) (.slice none 0 0)).run Try.prog w = .ok (.bool false) w := fun _ => rfl
    go_enter Try.func78, Try.ntmps78
    have hB : Below w.heap.size w (w.alloc (.cells #[] 3)) := (Below.refl _ _).alloc (Nat.le_refl _) _
    go_wp2_with (at_builtin; refine wpList_append_arg _ rfl _ _ 24 rfl 3 i _ 1 8 E24.und hi hz0 hz1 hz2 E24.zs E24.pos w.heap.size 0 0 0 [] rfl rfl (fun j u h => by simp at h) ad l.length cap (l.map (Value.int .i64)) rfl (by simp) (HV.out.below hB).cells (fun u hu => by simp at hu; obtain ⟨y, -, rfl⟩ := hu; rfl) ?c1 (by unfold maxLen; omega) (by omega) ?c2 ?c3)
    case c1 => intro h j hj; simp at hj; simp at h; subst h; simp at hj
    case c2 =>
      intro h
      subst h
      go_wp2
      go_ret
      exact ⟨_, rfl, ⟨rfl, .inr ⟨w.heap.size, 0, #[], rfl, Nat.le_refl _, Blk.new w #[] 3, by simp, by decide, rfl, rfl⟩⟩, hB⟩
    case c3 =>
      intro _ v' w' hown hgrow
      go_wp2
      go_ret
      refine ⟨_, rfl, by simpa using ownsRow_base (B' := w.heap.size) hown (by simp), hB.trans ((below_grown hgrow).mono hB.size)⟩

theorem clone_any (v : Value) (l : List Int) (w : World) (hv : IntsAt w v l) (hl : l.length ≤ 1000000000) :
    Calls Try.prog 78 #[v] w fun e w' => ∃ v', e = .returned v' ∧ IntsAt w' v' l ∧ Below w.heap.size w w' := by
  refine (clone_own v l w hv hl).mono ?_
  rintro e w' ⟨v', h1, h2, h3⟩
  exact ⟨v', h1, owned_slice h2, h3⟩

theorem nan110 (x : Int) (w : World) : Calls Try.prog 110 #[.int .i64 x] w fun e w' => e = .returned (.bool false) ∧ w = w' := by
  go_enter Try.func110, Try.ntmps110
  go_wp2
  go_ret
  exact ⟨by simp, rfl⟩
theorem nan100 (x : Int) (w : World) : Calls Try.prog 100 #[.int .i64 x] w fun e w' => e = .returned (.bool false) ∧ w = w' := by
  go_enter Try.func100, Try.ntmps100
  go_wp2
  go_ret
  exact ⟨by simp, rfl⟩
theorem less99 (x y : Int) (w : World) : Calls Try.prog 99 #[.int .i64 x, .int .i64 y] w fun e w' => e = .returned (.bool (decide (x < y))) ∧ w = w' := by
  go_enter Try.func99, Try.ntmps99
  go_wp2_with fail
  refine (nan110 _ _).mono ?_
  rintro e w' ⟨rfl, rfl⟩
  go_wp2
  go_ret
  exact ⟨rfl, rfl⟩

def SortedI (l : List Int) : Prop := ∀ a b, a < b → b < l.length → l.getD a 0 < l.getD b 0
theorem memI {l : List Int} {x : Int} : x ∈ l ↔ ∃ k, k < l.length ∧ l.getD k 0 = x := by
  rw [List.mem_iff_getElem?]
  refine ⟨fun ⟨k, hk⟩ => ?_, fun ⟨k, hk, e⟩ => ⟨k, by rw [getD_some 0 hk, e]⟩⟩
  have hl : k < l.length := by
    refine Classical.byContradiction fun hc => ?_
    rw [List.getElem?_eq_none (by omega)] at hk; cases hk
  refine ⟨k, hl, ?_⟩
  have := getD_some 0 hl
  rw [hk] at this
  exact (Option.some.inj this).symm
set_option maxRecDepth 100000 in
set_option maxHeartbeats 1000000 in
theorem search_any (v : Value) (l : List Int) (x : Int) (w : World) (hv : IntsAt w v l) (hs : SortedI l) (hl : l.length ≤ 1000000000) :
    Calls Try.prog 79 #[v, .int .i64 x] w fun e w' => (∃ k : Int, e = .returned (.tuple #[.int .i64 k, .bool (decide (x ∈ l))])) ∧ w = w' := by
  have HV := Lib.hid hv
  have HS := Lib.hid hs
  obtain ⟨a, cap, rfl, h1, h2⟩ := hv.len
  unfold maxLen at h2
  clear hv hs
  obtain ⟨mb, hmb⟩ : ∃ b, Hid (b = decide (x ∈ l)) := ⟨_, Lib.hid rfl⟩
  rw [← hmb.out]
  go_enter Try.func79, Try.ntmps79
  go_wp2
  go_loop [7, 8] (fun u7 u8 => ∃ i j : Nat, i ≤ j ∧ j ≤ l.length ∧ u7 = .int .i64 i ∧ u8 = .int .i64 j ∧ Hid ((∀ q, q < i → l.getD q 0 < x) ∧ (∀ q, j ≤ q → q < l.length → x ≤ l.getD q 0)))
    (fun u7 u8 => (intOf u8 - intOf u7).toNat)
  case atStart => exact ⟨0, l.length, by omega, by omega, rfl, rfl, Lib.hid ⟨fun q h => by omega, fun q h1 h2 => by omega⟩⟩
  case round =>
    obtain ⟨i, j, hij, hj, rfl, rfl, hq⟩ := hrel
    by_cases hlt : i < j
    · have hlen : 0 < l.length := by omega
      have hmid : (i + j) / 2 < l.length := by omega
      obtain ⟨b, off, rfl, hcell⟩ := HV.out.get (getD_some 0 hmid)
      generalize hm : (i + j) / 2 = m at hmid hcell
      have hmi : i ≤ m ∧ m < j := by omega
      have hm2 : ((i : Int) + j) / 2 = m := by omega
      have hwr : IntKind.i64.wrap ((i : Int) + j) = (i : Int) + j := wraps_i64 _ (by omega) (by omega)
      have hmo := Lib.hid (fun q (h : q < m) => HS.out q m h hmid)
      have hmo2 := Lib.hid (fun q (h : m < q) (h2 : q < l.length) => HS.out m q h h2)
      obtain ⟨y, hy0⟩ : ∃ y, l.getD m 0 = y := ⟨_, rfl⟩
      rw [hy0] at hcell hmo hmo2
      have hmy := Lib.hid hy0
      clear hy0
      by_cases hy : y < x
      · have hy' : decide (y < x) = true := decide_eq_true hy
        go_wp2_with fail
        refine (less99 _ _ _).mono ?_
        rintro e w' ⟨rfl, rfl⟩
        go_wp2
        refine ⟨⟨m + 1, j, by omega, by omega, by go_num, rfl, Lib.hid ⟨fun q h => ?_, hq.out.2⟩⟩, by simp [intOf]; omega⟩
        rcases Nat.lt_or_ge q m with h1 | h1
        · have := hmo.out q h1; omega
        · obtain rfl : q = m := by omega
          rw [hmy.out]; exact hy
      · have hy' : decide (y < x) = false := decide_eq_false hy
        go_wp2_with fail
        refine (less99 _ _ _).mono ?_
        rintro e w' ⟨rfl, rfl⟩
        go_wp2
        refine ⟨⟨i, m, by omega, by omega, rfl, by go_num, Lib.hid ⟨hq.out.1, fun q h h2 => ?_⟩⟩, by simp [intOf]; omega⟩
        rcases Nat.lt_or_ge m q with h1 | h1
        · have := hmo2.out q h1 h2; omega
        · obtain rfl : q = m := by omega
          rw [hmy.out]; omega
    · obtain rfl : i = j := by omega
      by_cases hil : i < l.length
      · obtain ⟨b, off, rfl, hcell⟩ := HV.out.get (getD_some 0 hil)
        have hmem : x ∈ l ↔ l.getD i 0 = x := by
          refine ⟨fun h => ?_, fun h => memI.2 ⟨i, hil, h⟩⟩
          obtain ⟨k, hk, e⟩ := memI.1 h
          rcases Nat.lt_trichotomy k i with h1 | h1 | h1
          · have := hq.out.1 k h1; omega
          · rw [← h1]; exact e
          · have a1 := HS.out i k h1 hk
            have a2 := hq.out.2 i (Nat.le_refl _) hil
            omega
        have hmb2 : mb = decide (l.getD i 0 = x) := hmb.out.trans (decide_eq_decide.2 hmem)
        clear hmem
        generalize l.getD i 0 = y at hcell hmb2
        by_cases hy : y = x
        · subst hy
          have hmb2 : mb = true := hmb2.trans (decide_eq_true rfl)
          have HM := Lib.hid hmb2
          clear hmb2
          go_wp2_with fail
          go_ret2
          exact ⟨⟨i, by first | rfl | (rw [HM.out]; rfl)⟩, rfl⟩
        · have hy' : decide (y = x) = false := decide_eq_false hy
          rw [hy'] at hmb2
          have hy2 : (y == x) = false := beq_eq_false_iff_ne.2 hy
          have HM := Lib.hid hmb2
          clear hmb2
          go_wp2_with fail
          refine (nan100 _ _).mono ?_
          rintro e w' ⟨rfl, rfl⟩
          go_wp2
          go_ret2
          exact ⟨⟨i, by first | rfl | (rw [HM.out]; rfl)⟩, rfl⟩
      · have hmem : decide (x ∈ l) = false := by
          refine decide_eq_false fun h => ?_
          obtain ⟨k, hk, e⟩ := memI.1 h
          have := hq.out.1 k (by omega)
          omega
        have HM := Lib.hid (hmb.out.trans hmem)
        clear hmem
        go_wp2_with fail
        go_ret2
        exact ⟨⟨i, by first | rfl | (rw [HM.out]; rfl)⟩, rfl⟩
end Go.Proofs.Ytblmpmapcdpaiaa
end
section
/- A program under construction: its rows in a row of the call's own, their numbers in blocks of integers. -/
namespace Go.Proofs.Ytblmpmapcdpaiaa
open Go.RowKit Lib

/-- In the range of a signed integer. -/
theorem wrapS (n : Int) (h₀ : -9223372036854775808 ≤ n) (h₁ : n ≤ 9223372036854775807) : IntKind.i64.wrap n = n := by rw [IntKind.wrap_i64]; omega
/-- Integers in a row of blocks of integers. -/
def O3 (W : World) (v : Value) (l : List Int) : Prop := W.ownsRow 0 3 1 v l.length (l.map (Value.int .i64))
def T3 (A B : World) : Prop := ∀ (k : Nat) (cs : Array Value) (fz : Nat × Nat), A.heap[k]? = some (.cells cs 3 fz) → B.heap[k]? = some (.cells cs 3 fz)
theorem T3.trans {A B C : World} (h : T3 A B) (k : T3 B C) : T3 A C := fun i c z e => k i c z (h i c z e)
theorem T3.of_below {A B : World} (h : Below A.heap.size A B) : T3 A B := fun k _ _ e => (h.block k (Array.getElem?_eq_some_iff.1 e).1).trans e
theorem T3.set {A : World} {b : Nat} {cs : Array Value} {t : TypeId} (hb : Blk A b cs t) (ht : t ≠ 3) (o : Nat) (u : Value) : T3 A (A.setCell ⟨b, o, none⟩ u) := fun k _ _ e => by
  refine (Below.heap_setCell A ⟨b, o, none⟩ u k (fun h => ?_)).trans e
  rw [h] at e
  have := (show A.heap[b]? = _ from hb).symm.trans e
  simp at this; exact ht this.2.1
theorem T3.grown {A B : World} {base e n m : Nat} {v : Value} {xs : List Value} {o : Obj} (hown : A.ownsRow base e n v m xs) (he : e ≠ 3) (hg : (A.alloc o).grownBy B v.ownBlock) : T3 A B := fun k cs fz h => by
  have hk := (Array.getElem?_eq_some_iff.1 h).1
  refine (hg.block k (by simp; omega) (fun e2 => ?_)).trans ((Below.heap_alloc A o k hk).trans h)
  rcases hown.2 with ⟨rfl, -⟩ | ⟨g, cap, cur, rfl, -, hgg, -⟩
  · cases e2
  · obtain rfl : k = g := by simpa [Value.ownBlock] using e2
    have := hgg.symm.trans h
    simp at this; exact he this.2.1
theorem O3.t {A B : World} {v : Value} {l : List Int} (h : O3 A v l) (k : T3 A B) : O3 B v l :=
  ⟨h.1, h.2.imp_right fun ⟨g, cap, cur, h1, h2, h3, h4⟩ => ⟨g, cap, cur, h1, h2, k _ _ _ h3, h4⟩⟩
theorem O3.ints {A : World} {v : Value} {l : List Int} (h : O3 A v l) : IntsAt A v l := owned_slice h
def RowO (W : World) (cs : List Value) (r : RowD) : Prop := ∃ vc, cs = [.int .i64 r.kind, .int .i64 r.a, .int .i64 r.b, .int .i64 r.at_, vc, .int .i64 r.most] ∧ O3 W vc r.coef
theorem RowO.t {A B : World} {cs : List Value} {r : RowD} (h : RowO A cs r) (k : T3 A B) : RowO B cs r := by
  obtain ⟨vc, h1, h2⟩ := h
  exact ⟨vc, h1, h2.t k⟩
theorem RowO.row {A : World} {cs : List Value} {r : RowD} (h : RowO A cs r) : RowCs A cs r := by
  obtain ⟨vc, h1, h2⟩ := h
  exact ⟨vc, h1, h2.ints⟩
theorem ownsRow_set_ne {W : World} {base e k : Nat} {v : Value} {n : Nat} {xs : List Value} (h : W.ownsRow base e k v n xs) {b : Nat} (hne : ∀ g, v.ownBlock = some g → g ≠ b) (o : Nat) (u : Value) : (W.setCell ⟨b, o, none⟩ u).ownsRow base e k v n xs := by
  have f := (Below.refl 0 W).setCell (p := ⟨b, o, none⟩) (Nat.zero_le _) u
  refine h.kept (row := some b) ⟨f.os, f.tape, f.output, f.size, fun k hk h2 => Below.heap_setCell W ⟨b, o, none⟩ u k (fun e => h2 (by rw [e]))⟩ ?_
  cases hv : v.ownBlock with
  | none => exact .inl rfl
  | some g => exact .inr (fun e => hne g hv (Option.some.inj e))
/-- The program under construction. -/
structure OutP (oB : Nat) (W : World) (vars : Int) (vk vg : Value) (rows : List RowD) (gain : List Int) : Prop where
  box : Blk W oB #[.int .i64 vars, vk, vg] 29
  own : ∃ cs, W.ownsRow (oB + 1) 26 6 vk rows.length cs ∧ FlatC 6 RowO W cs rows
  g : O3 W vg gain
  sz : oB + 1 ≤ W.heap.size
theorem OutP.below {oB : Nat} {W W' : World} {vars : Int} {vk vg : Value} {rows : List RowD} {gain : List Int} (h : OutP oB W vars vk vg rows gain) (hb : Below W.heap.size W W') : OutP oB W' vars vk vg rows gain := by
  obtain ⟨cs, h1, h2⟩ := h.own
  exact ⟨h.box.below hb h.box.lt, ⟨cs, owned_below h1 hb, h2.imp (fun _ _ k => k.t (T3.of_below hb))⟩, h.g.t (T3.of_below hb), Nat.le_trans h.sz hb.size⟩
/-- A row has been copied, its numbers too, and appended. -/
theorem OutP.pushed {oB tB : Nat} {W w3 w5 : World} {vars : Int} {vk vg v3 v' : Value} {rows : List RowD} {gain : List Int} {r : RowD} {ts : Array Value} {tmp : Obj} {cs : List Value}
    (h : OutP oB W vars vk vg rows gain) (h1 : W.ownsRow (oB + 1) 26 6 vk rows.length cs) (h2 : FlatC 6 RowO W cs rows) (htb : W.heap.size ≤ tB) (ht : Blk w3 tB ts 26) (hb : Below W.heap.size W w3) (h3 : O3 w3 v3 r.coef)
    (hgrow : ((w3.setCell ⟨tB, 4, none⟩ v3).alloc tmp).grownBy w5 vk.ownBlock)
    (hown : w5.ownsRow (oB + 1) 26 6 v' (rows.length + 1) (cs ++ [.int .i64 r.kind, .int .i64 r.a, .int .i64 r.b, .int .i64 r.at_, v3, .int .i64 r.most])) :
    Blk w5 oB #[.int .i64 vars, vk, vg] 29 ∧ OutP oB (w5.setCell ⟨oB, 1, none⟩ v') vars v' vg (rows ++ [r]) gain := by
  have hx := h.below hb
  have hset : (w3.setCell ⟨tB, 4, none⟩ v3).ownsRow (oB + 1) 26 6 vk rows.length cs := ownsRow_set_ne (owned_below h1 hb) (fun g hg e => by have := (h1.lt g hg).2; omega) 4 v3
  have lo := h.box.lt
  have hbx : Blk w5 oB #[.int .i64 vars, vk, vg] 29 :=
    (hgrow.block oB (by have := hb.size; simp; omega) (fun e => by have := (h1.lt oB e.symm).1; omega)).trans (((hx.box.other (a := ⟨tB, 4, none⟩) v3 (by simp; omega))).alloc tmp)
  have t1 : T3 w3 (w3.setCell ⟨tB, 4, none⟩ v3) := T3.set ht (by decide) 4 v3
  have t2 : T3 (w3.setCell ⟨tB, 4, none⟩ v3) w5 := T3.grown hset (by decide) hgrow
  have t3 : T3 w5 (w5.setCell ⟨oB, 1, none⟩ v') := T3.set hbx (by decide) 1 v'
  have t4 := (t1.trans t2).trans t3
  have t0 := (T3.of_below hb).trans t4
  refine ⟨hbx, hbx.set 1 v', ⟨_, by simpa using ownsRow_setCell_below (a := ⟨oB, 1, none⟩) hown (by simp) v', (h2.imp (fun _ _ k => k.t t0)).app (FlatC.one rfl ⟨v3, rfl, h3.t t4⟩)⟩, h.g.t t0, ?_⟩
  have := hgrow.size
  have := hb.size
  have := h.sz
  simp at *; omega
/-- A cell of a block below is written. -/
theorem OutP.setLow {oB b : Nat} {W : World} {vars : Int} {vk vg : Value} {rows : List RowD} {gain : List Int} {cs : Array Value} {t : TypeId} (h : OutP oB W vars vk vg rows gain) (hb : Blk W b cs t) (ht : t ≠ 3) (hlt : b < oB) (o : Nat) (u : Value) :
    OutP oB (W.setCell ⟨b, o, none⟩ u) vars vk vg rows gain := by
  obtain ⟨ds, h1, h2⟩ := h.own
  have t3 : T3 W (W.setCell ⟨b, o, none⟩ u) := T3.set hb ht o u
  refine ⟨h.box.other u (by simp; omega), ⟨ds, ownsRow_setCell_below h1 (show b < oB + 1 by omega) u, h2.imp (fun _ _ k => k.t t3)⟩, h.g.t t3, ?_⟩
  have := h.sz
  simp; omega
theorem OutP.prog {oB : Nat} {W : World} {vars : Int} {vk vg : Value} {rows : List RowD} {gain : List Int} (h : OutP oB W vars vk vg rows gain) : ProgV W (.agg #[.int .i64 vars, vk, vg]) ⟨vars, rows, gain⟩ := by
  obtain ⟨ds, h1, h2⟩ := h.own
  exact ⟨_, _, rfl, flat_view h1 (h2.to (fun _ _ k => k.row)), h.g.ints⟩
/-- A row of the call's own is appended. -/
theorem OutP.pushed0 {oB : Nat} {W w3 w5 : World} {vars : Int} {vk vg v3 v' : Value} {rows : List RowD} {gain : List Int} {r : RowD} {tmp : Obj} {cs : List Value}
    (h : OutP oB W vars vk vg rows gain) (h1 : W.ownsRow (oB + 1) 26 6 vk rows.length cs) (h2 : FlatC 6 RowO W cs rows) (hb : Below W.heap.size W w3) (h3 : O3 w3 v3 r.coef)
    (hgrow : (w3.alloc tmp).grownBy w5 vk.ownBlock)
    (hown : w5.ownsRow (oB + 1) 26 6 v' (rows.length + 1) (cs ++ [.int .i64 r.kind, .int .i64 r.a, .int .i64 r.b, .int .i64 r.at_, v3, .int .i64 r.most])) :
    Blk w5 oB #[.int .i64 vars, vk, vg] 29 ∧ OutP oB (w5.setCell ⟨oB, 1, none⟩ v') vars v' vg (rows ++ [r]) gain := by
  have hx := h.below hb
  have lo := h.box.lt
  have hbx : Blk w5 oB #[.int .i64 vars, vk, vg] 29 :=
    (hgrow.block oB (by have := hb.size; simp; omega) (fun e => by have := (h1.lt oB e.symm).1; omega)).trans (hx.box.alloc tmp)
  have t2 : T3 w3 w5 := T3.grown (owned_below h1 hb) (by decide) hgrow
  have t3 : T3 w5 (w5.setCell ⟨oB, 1, none⟩ v') := T3.set hbx (by decide) 1 v'
  have t4 := t2.trans t3
  have t0 := (T3.of_below hb).trans t4
  refine ⟨hbx, hbx.set 1 v', ⟨_, by simpa using ownsRow_setCell_below (a := ⟨oB, 1, none⟩) hown (by simp) v', (h2.imp (fun _ _ k => k.t t0)).app (FlatC.one rfl ⟨v3, rfl, h3.t t4⟩)⟩, h.g.t t0, ?_⟩
  have := hgrow.size
  have := hb.size
  have := h.sz
  simp at *; omega
end Go.Proofs.Ytblmpmapcdpaiaa
end
section
/- nadirref23.pick, nadirlaw23.pick. -/
namespace Go.Proofs.Ytblmpmapcdpaiaa
open Go.RowKit Lib

def pickI (c n : Int) : Int := (if c < 0 then -(c + 1) else c) % n
def InR (c : Int) : Prop := -9223372036854775808 ≤ c ∧ c ≤ 9223372036854775807
theorem pickI_bd (c : Int) {n : Int} (hn : 0 < n) : 0 ≤ pickI c n ∧ pickI c n < n := ⟨Int.emod_nonneg _ (by omega), Int.emod_lt_of_pos _ hn⟩
set_option maxRecDepth 100000 in
theorem pick59 (c n : Int) (w : World) (hc : InR c) (hn : 0 < n) (hn2 : n ≤ 9223372036854775807) : Calls Try.prog 59 #[.int .i64 c, .int .i64 n] w fun e w' => e = .returned (.int .i64 (pickI c n)) ∧ w = w' := by
  have hp := pickI_bd c hn
  have hp' := Lib.hid hp
  obtain ⟨hc1, hc2⟩ := hc
  have hn0 : ¬ n = 0 := by omega
  by_cases h : c < 0
  · have hw1 : IntKind.i64.wrap (c + 1) = c + 1 := wrapS _ (by omega) (by omega)
    have hw2 : IntKind.i64.wrap (-(c + 1)) = -(c + 1) := wrapS _ (by omega) (by omega)
    have e : pickI c n = -(Int.tmod (c + 1) n) := by unfold pickI; rw [if_pos h, ← Int.neg_tmod]; exact (Int.tmod_eq_emod_of_nonneg (by omega)).symm
    rw [e] at hp
    have hw3 : IntKind.i64.wrap (-(Int.tmod (c + 1) n)) = -(Int.tmod (c + 1) n) := wrapS _ (by omega) (by omega)
    rw [e]
    clear hp e
    go_enter Try.func59, Try.ntmps59
    go_wp2
    go_ret
    exact ⟨rfl, rfl⟩
  · have e : pickI c n = c % n := by unfold pickI; rw [if_neg h]
    rw [e] at hp
    have hw3 : IntKind.i64.wrap (c % n) = c % n := wrapS _ (by omega) (by omega)
    rw [e]
    clear hp e
    go_enter Try.func59, Try.ntmps59
    go_wp2
    go_ret
    exact ⟨rfl, rfl⟩
set_option maxRecDepth 100000 in
theorem pick18 (c n : Int) (w : World) (hc : InR c) (hn : 0 < n) (hn2 : n ≤ 9223372036854775807) : Calls Try.prog 18 #[.int .i64 c, .int .i64 n] w fun e w' => e = .returned (.int .i64 (pickI c n)) ∧ w = w' := by
  have hp := pickI_bd c hn
  have hp' := Lib.hid hp
  obtain ⟨hc1, hc2⟩ := hc
  have hn0 : ¬ n = 0 := by omega
  by_cases h : c < 0
  · have hw1 : IntKind.i64.wrap (c + 1) = c + 1 := wrapS _ (by omega) (by omega)
    have hw2 : IntKind.i64.wrap (-(c + 1)) = -(c + 1) := wrapS _ (by omega) (by omega)
    have e : pickI c n = -(Int.tmod (c + 1) n) := by unfold pickI; rw [if_pos h, ← Int.neg_tmod]; exact (Int.tmod_eq_emod_of_nonneg (by omega)).symm
    rw [e] at hp
    have hw3 : IntKind.i64.wrap (-(Int.tmod (c + 1) n)) = -(Int.tmod (c + 1) n) := wrapS _ (by omega) (by omega)
    rw [e]
    clear hp e
    go_enter Try.func18, Try.ntmps18
    go_wp2
    go_ret
    exact ⟨rfl, rfl⟩
  · have e : pickI c n = c % n := by unfold pickI; rw [if_neg h]
    rw [e] at hp
    have hw3 : IntKind.i64.wrap (c % n) = c % n := wrapS _ (by omega) (by omega)
    rw [e]
    clear hp e
    go_enter Try.func18, Try.ntmps18
    go_wp2
    go_ret
    exact ⟨rfl, rfl⟩
end Go.Proofs.Ytblmpmapcdpaiaa
end
