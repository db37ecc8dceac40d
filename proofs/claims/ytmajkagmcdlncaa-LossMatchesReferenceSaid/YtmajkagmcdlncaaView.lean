/- Views of integers, passes, slots and options in memory, over the program of chapter 18; what owns memory can be read. -/
import Derived.Test.YtmajkagmcdlncaaProg
import Derived.Test.YtmajkagmcdlncaaRead
import Derived.Test.YtmajkagmcdlncaaBits
import Derived.Test.YtmajkagmcdlncaaRangeM
import Derived.Test.YtmajkagmcdlncaaFrm
import Derived.Test.YtmajkagmcdlncaaPGen
import Derived.Laws.OwnMore
import Derived.Outline
import Derived.BigQuiet
import Derived.WalkSmall
import Derived.Deep.QuietTactic
namespace Go.Proofs.Ytmajkagmcdlncaa
open Go.ChangeShapes Go.WideShapes Go.ChangeAt Go.RowKit

def InR (c : Int) : Prop := -9223372036854775808 ≤ c ∧ c ≤ 9223372036854775807
theorem inR_wf {y : Int} (h : (Lit.int .i64 y).wf = true) : InR y := by
  simp [Lit.wf, IntKind.min, IntKind.max, IntKind.signed, IntKind.bits] at h
  exact ⟨by omega, by omega⟩
abbrev IntsAt (w : World) (v : Value) (l : List Int) : Prop := SliceOf (Value.int .i64) w v l
theorem E37 : ElemOK Try.prog 23 3 (.int .i64 0) 1 8 := ⟨Try.underlying23, by kernel_rfl, rfl, by decide⟩
theorem SliceOf.get {α : Type} {f : α → Value} {w : World} {a : Option Addr} {len cap : Nat} {l : List α} (h : SliceOf f w (.slice a len cap) l) {k : Nat} {y : α} (hk : l[k]? = some y) :
    ∃ b off, a = some ⟨b, off, none⟩ ∧ w.cell? ⟨b, off + k, none⟩ = some (f y) := by
  obtain ⟨a', cap', e, h2, h3, h4⟩ := h
  have hl : 0 < l.length := by
    refine Classical.byContradiction fun hc => ?_
    rw [List.getElem?_eq_none (by omega)] at hk; cases hk
  obtain ⟨b, off, rfl, h5⟩ := h4 hl
  cases e
  exact ⟨b, off, rfl, h5 k y hk⟩
theorem getD_some {α : Type} {l : List α} {k : Nat} (d : α) (h : k < l.length) : l[k]? = some (l.getD k d) := by
  rw [List.getD_eq_getElem?_getD, List.getElem?_eq_getElem h]; rfl
theorem SliceOf.len {α : Type} {f : α → Value} {w : World} {v : Value} {l : List α} (h : SliceOf f w v l) : ∃ (a : Option Addr) (cap : Nat), v = .slice a l.length cap ∧ l.length ≤ cap ∧ cap ≤ maxLen := by
  obtain ⟨a, cap, h1, h2, h3, -⟩ := h; exact ⟨a, cap, h1, h2, h3⟩
/-- A slice of elements of n cells each; R says what an element's cells are. -/
def StructsOf {α : Type} (n : Nat) (R : World → List Value → α → Prop) (w : World) (v : Value) (l : List α) : Prop :=
  ∃ (a : Option Addr) (cap : Nat), v = .slice a l.length cap ∧ l.length ≤ cap ∧ cap ≤ maxLen ∧
    (0 < l.length → ∃ b off, a = some ⟨b, off, none⟩ ∧ ∀ j y, l[j]? = some y → ∃ cs, cs.length = n ∧ (∀ i c, cs[i]? = some c → w.cell? ⟨b, off + j * n + i, none⟩ = some c) ∧ R w cs y)
theorem StructsOf.below {α : Type} {n : Nat} {R : World → List Value → α → Prop} (hR : ∀ (w w' : World) (cs : List Value) (y : α), R w cs y → Below w.heap.size w w' → R w' cs y)
    {w w' : World} {v : Value} {l : List α} (h : StructsOf n R w v l) (hb : Below w.heap.size w w') : StructsOf n R w' v l := by
  obtain ⟨a, cap, h1, h2, h3, h4⟩ := h
  refine ⟨a, cap, h1, h2, h3, fun hl => ?_⟩
  obtain ⟨b, off, rfl, h5⟩ := h4 hl
  refine ⟨b, off, rfl, fun j y hj => ?_⟩
  obtain ⟨cs, c1, c2, c3⟩ := h5 j y hj
  exact ⟨cs, c1, fun i c hc => (hb.cell (World.block_lt_of_cell? _ _ (c2 i c hc))).trans (c2 i c hc), hR _ _ _ _ c3 hb⟩
theorem StructsOf.at {α : Type} {n : Nat} {R : World → List Value → α → Prop} {w : World} {a : Option Addr} {len cap : Nat} {l : List α} (h : StructsOf n R w (.slice a len cap) l) {k : Nat} {y : α} (hk : l[k]? = some y) :
    ∃ b off cs, a = some ⟨b, off, none⟩ ∧ cs.length = n ∧ (∀ i c, cs[i]? = some c → w.cell? ⟨b, off + k * n + i, none⟩ = some c) ∧ R w cs y := by
  obtain ⟨a', cap', e, h2, h3, h4⟩ := h
  have hl : 0 < l.length := by
    refine Classical.byContradiction fun hc => ?_
    rw [List.getElem?_eq_none (by omega)] at hk; cases hk
  obtain ⟨b, off, rfl, h5⟩ := h4 hl
  obtain ⟨cs, c1, c2, c3⟩ := h5 k y hk
  cases e
  exact ⟨b, off, cs, rfl, c1, c2, c3⟩
theorem StructsOf.len {α : Type} {n : Nat} {R : World → List Value → α → Prop} {w : World} {v : Value} {l : List α} (h : StructsOf n R w v l) : ∃ (a : Option Addr) (cap : Nat), v = .slice a l.length cap ∧ l.length ≤ cap ∧ cap ≤ maxLen := by
  obtain ⟨a, cap, h1, h2, h3, -⟩ := h; exact ⟨a, cap, h1, h2, h3⟩
theorem addr_add (b off d : Nat) : (⟨b, off, none⟩ : Addr).add d = ⟨b, off + d, none⟩ := by
  unfold Addr.add; split <;> simp_all
section
variable {H : Type} {enc : TypeId × Value → H} {P : Program}
theorem cells_get {w : World} {a : Addr} {n : Nat} {cs : List Value} (h : w.cells? 0 a n = some cs) : cs.length = n ∧ ∀ i c, cs[i]? = some c → w.cell? (a.add i) = some c := by
  unfold World.cells? at h
  rw [if_pos (Nat.zero_le _)] at h
  have hl : cs.length = n := by have := mapM_len h; simpa using this
  refine ⟨hl, fun i c hc => ?_⟩
  have hi : i < n := by
    rw [← hl]
    refine Classical.byContradiction fun h2 => ?_
    rw [List.getElem?_eq_none (by omega)] at hc; cases hc
  obtain ⟨x, hx1, hx2⟩ := Lib.mapM_at h i i (by simp [hi])
  rw [hc] at hx1
  cases hx1
  exact hx2
/-- A slice of structs of n cells, opened by what one element's reading tells. -/
theorem slice_structs {α : Type} (n : Nat) (R : World → List Value → α → Prop) (hn : 0 < n) {w : World} {r : Reach} {b0 : Nat} {spare : Nat → Bool} {held : Bool} {t e : TypeId} {v : Value} {d : DataW H} {p : List MemPlace}
    (ht : P.underlying t = some (.slice e)) (hce : P.cellsOf e = n)
    (hinv : ∀ (m : Nat) (cs : List Value) (x : DataW H × List MemPlace), cs.length = n → DataW.trod enc P w 0 spare held m e cs = some x → ∃ y, R w cs y)
    (hv : Value.okWide P w r b0 t v) (h : DataW.Trod enc P w 0 spare held t v d p) : ∃ l : List α, StructsOf n R w v l := by
  obtain ⟨a, len, cap, rfl⟩ := okWide_slice ht hv
  obtain ⟨fuel, hf⟩ := h
  cases fuel with
  | zero => simp [DataW.trod] at hf
  | succ fuel =>
    unfold DataW.trod at hf
    simp only [ht, Value.cells] at hf
    cases a with
    | none =>
      cases len with
      | zero =>
        cases cap with
        | zero => exact ⟨[], ⟨none, 0, rfl, Nat.le_refl _, Nat.zero_le _, fun h => absurd h (Nat.lt_irrefl 0)⟩⟩
        | succ c => simp at hf
      | succ l => simp at hf
    | some a =>
      simp only [hce] at hf
      split at hf
      · rename_i hc
        obtain ⟨elems, he2, -⟩ := Option.bind_eq_some_iff.1 hf
        have hcell : ∀ i, i < len → ∃ y : α, ∃ cs : List Value, cs.length = n ∧ (∀ k c, cs[k]? = some c → w.cell? ((a.add (i * n)).add k) = some c) ∧ R w cs y := by
          intro i hi
          obtain ⟨x, -, hx⟩ := Lib.mapM_at he2 i i (by simp [hi])
          obtain ⟨cs, hcs, hx3⟩ := Option.bind_eq_some_iff.1 hx
          obtain ⟨hl, hg⟩ := cells_get hcs
          obtain ⟨y, hy⟩ := hinv _ _ _ hl hx3
          exact ⟨y, cs, hl, hg, hy⟩
        obtain ⟨l, hl1, hl2⟩ := choose_list (fun i (y : α) => ∃ cs : List Value, cs.length = n ∧ (∀ k c, cs[k]? = some c → w.cell? ((a.add (i * n)).add k) = some c) ∧ R w cs y) len hcell
        subst hl1
        refine ⟨l, ⟨some a, cap, rfl, hc.2.1, hc.2.2, fun h0 => ?_⟩⟩
        obtain ⟨cs0, q0, q1, -⟩ := hl2 0 (l[0]'h0) (List.getElem?_eq_getElem h0)
        have hs := spot_none (q1 0 _ (List.getElem?_eq_getElem (by omega)))
        obtain ⟨b, o, sp⟩ := a
        simp [Addr.add] at hs
        subst hs
        refine ⟨b, o, rfl, fun j y hj => ?_⟩
        obtain ⟨cs, k0, k1, k2⟩ := hl2 j y hj
        refine ⟨cs, k0, fun i c hc2 => ?_, k2⟩
        have := k1 i c hc2
        rwa [addr_add, addr_add] at this
      · cases hf
end
section
variable {H : Type} {enc : TypeId × Value → H} {P : Program}
/-- A slice of elements of n cells, within a struct, opened. -/
theorem nest_structs {α : Type} (n : Nat) (R : World → List Value → α → Prop) (hn : 0 < n) {w : World} {fuel : Nat} {spare : Nat → Bool} {held : Bool} {t e : TypeId} {cs : List Value} {x : DataW H × List MemPlace}
    (ht : P.underlying t = some (.slice e)) (hce : P.cellsOf e = n)
    (hinv : ∀ (m : Nat) (cs : List Value) (x : DataW H × List MemPlace), cs.length = n → DataW.trod enc P w 0 spare held m e cs = some x → ∃ y, R w cs y)
    (h : DataW.trod enc P w 0 spare held fuel t cs = some x) : ∃ v, ∃ l : List α, cs = [v] ∧ StructsOf n R w v l := by
  rcases DataW.trod_slice ht h with ⟨rfl, -⟩ | ⟨a, len, cap, elems, rest, m, -, rfl, -, -, h1, h2, h3, h4, -, -⟩
  · exact ⟨_, [], rfl, none, 0, rfl, Nat.le_refl _, Nat.zero_le _, fun h => absurd h (Nat.lt_irrefl 0)⟩
  · rw [hce] at h4
    have hcell : ∀ i, i < len → ∃ y : α, ∃ cs : List Value, cs.length = n ∧ (∀ k c, cs[k]? = some c → w.cell? ((a.add (i * n)).add k) = some c) ∧ R w cs y := by
      intro i hi
      have hx := (h4 i hi).trans (List.getElem?_eq_getElem (by omega))
      obtain ⟨cs, hcs, hx3⟩ := Option.bind_eq_some_iff.1 hx
      obtain ⟨hl, hg⟩ := cells_get hcs
      obtain ⟨y, hy⟩ := hinv _ _ _ hl hx3
      exact ⟨y, cs, hl, hg, hy⟩
    obtain ⟨l, hl1, hl2⟩ := choose_list (fun i (y : α) => ∃ cs : List Value, cs.length = n ∧ (∀ k c, cs[k]? = some c → w.cell? ((a.add (i * n)).add k) = some c) ∧ R w cs y) len hcell
    subst hl1
    refine ⟨_, l, rfl, some a, cap, rfl, h1, h2, fun h0 => ?_⟩
    obtain ⟨cs0, q0, q1, -⟩ := hl2 0 (l[0]'h0) (List.getElem?_eq_getElem h0)
    have hs := spot_none (q1 0 _ (List.getElem?_eq_getElem (by omega)))
    obtain ⟨b, o, sp⟩ := a
    simp [Addr.add] at hs
    subst hs
    refine ⟨b, o, rfl, fun j y hj => ?_⟩
    obtain ⟨cs, k0, k1, k2⟩ := hl2 j y hj
    refine ⟨cs, k0, fun i c hc2 => ?_, k2⟩
    have := k1 i c hc2
    rwa [addr_add, addr_add] at this
theorem nest_ints {w : World} {fuel : Nat} {spare : Nat → Bool} {held : Bool} {t e : TypeId} {cs : List Value} {x : DataW H × List MemPlace}
    (ht : P.underlying t = some (.slice e)) (hce : P.cellsOf e = 1) (he : P.underlying e = some (.int .i64)) (h : DataW.trod enc P w 0 spare held fuel t cs = some x) : ∃ v, ∃ l : List Int, cs = [v] ∧ IntsAt w v l := by
  obtain ⟨v, l, rfl, a, cap, h1, h2, h3, h4⟩ := nest_structs 1 (fun _ cs (y : Int) => cs = [.int .i64 y]) (by decide) ht hce (fun m cs x hl hx => by
    match cs, hl with
    | [c], _ =>
      obtain ⟨y, e1, -⟩ := inv_int he m c x hx
      exact ⟨y, by rw [e1]⟩) h
  refine ⟨v, l, rfl, a, cap, h1, h2, h3, fun hl => ?_⟩
  obtain ⟨b, off, e1, h5⟩ := h4 hl
  refine ⟨b, off, e1, fun j y hj => ?_⟩
  obtain ⟨cs, -, c2, rfl⟩ := h5 j y hj
  have := c2 0 _ rfl
  simpa using this
end
theorem owned_slice {α : Type} {f : α → Value} {B : Nat} {e : TypeId} {v : Value} {l : List α} {w : World} (h : w.ownsRow B e 1 v l.length (l.map f)) : SliceOf f w v l := by
  rcases h.2 with ⟨rfl, hn⟩ | ⟨g, cap, cur, rfl, hb, hg, h1, h2, -⟩
  · exact ⟨none, 0, by rw [hn], by omega, by unfold maxLen; omega, fun hl => by omega⟩
  · refine ⟨_, cap, rfl, h1, h2, fun _ => ⟨g, 0, rfl, fun j y hj => ?_⟩⟩
    have := h.cells rfl j (f y) (by rw [List.getElem?_map, hj]; rfl)
    rw [add_zero_off] at this
    simpa using this
/-- The cells of a row of structs, one after the other. -/
def flat {α : Type} (f : α → List Value) (l : List α) : List Value := l.flatMap f
theorem flat_get {α : Type} {f : α → List Value} {n : Nat} (hf : ∀ y, (f y).length = n) : ∀ (l : List α) (j : Nat) (y : α), l[j]? = some y → ∀ i c, (f y)[i]? = some c → (flat f l)[j * n + i]? = some c := by
  intro l
  induction l with
  | nil => intro j y h; simp at h
  | cons x l ih =>
    intro j y h i c hc
    have hi : i < n := by
      rw [← hf y]
      refine Classical.byContradiction fun hcc => ?_
      rw [List.getElem?_eq_none (by omega)] at hc; cases hc
    cases j with
    | zero =>
      simp at h; subst h
      simp only [flat, List.flatMap_cons, Nat.zero_mul, Nat.zero_add]
      rw [List.getElem?_append_left (by rw [hf]; exact hi)]; exact hc
    | succ j =>
      have := ih j y (by simpa using h) i c hc
      simp only [flat, List.flatMap_cons]
      rw [List.getElem?_append_right (by rw [hf, Nat.succ_mul]; omega), hf]
      rw [show (j + 1) * n + i - n = j * n + i from by rw [Nat.succ_mul]; omega]
      exact this
theorem flat_len {α : Type} {f : α → List Value} {n : Nat} (hf : ∀ y, (f y).length = n) (l : List α) : (flat f l).length = l.length * n := by
  induction l with
  | nil => simp [flat]
  | cons x l ih => simp only [flat, List.flatMap_cons, List.length_append, hf, List.length_cons] at ih ⊢; rw [ih, Nat.succ_mul]; omega
theorem owned_structs {α : Type} {f : α → List Value} {n : Nat} {R : World → List Value → α → Prop} {B : Nat} {e : TypeId} {v : Value} {l : List α} {w : World} (hf : ∀ y, (f y).length = n)
    (h : w.ownsRow B e n v l.length (flat f l)) (hR : ∀ y ∈ l, R w (f y) y) : StructsOf n R w v l := by
  rcases h.2 with ⟨rfl, hn⟩ | ⟨g, cap, cur, rfl, hb, hg, h1, h2, -⟩
  · exact ⟨none, 0, by rw [hn], by omega, by unfold maxLen; omega, fun hl => by omega⟩
  · refine ⟨_, cap, rfl, h1, h2, fun _ => ⟨g, 0, rfl, fun j y hj => ⟨f y, hf y, fun i c hc => ?_, hR y (List.mem_of_getElem? hj)⟩⟩⟩
    have := h.cells rfl (j * n + i) c (flat_get hf l j y hj i c hc)
    rw [add_zero_off] at this
    simpa using this
/-- 'out = append(out, x)', x of several cells. -/
theorem wpList_pushN {P : Program} {ops : Array Oper} {rest : List Oper} {o : Oper} {a : Act} {Q : Exit → Act → World → Prop} {t e : TypeId} {z : Value} {size bytes : Nat} {w0 : World} {us : List Value}
    (E : ElemOK P t e z size bytes) (hgd : o.guard = none) (s x : Operand)
    (ho : o.op = .call { callee := .builtin .append, args := #[s, x], argTypes := #[t, t] })
    (base : Nat) {v : Value} {n : Nat} {xs : List Value} (hown : w0.ownsRow base e size v n xs) (hs : a.eval s = v) (hx : a.eval x = .slice (some ⟨w0.heap.size, 0, none⟩) 1 1)
    (hus : us.length = size) (h1 : ∀ u ∈ us, u.oneCell' = true) (h63 : n + 1 ≤ maxLen) (hbytes : (n + 1) * bytes ≤ 140737488355328) (hbase : base ≤ w0.heap.size)
    (h : ∀ v' w', w'.ownsRow base e size v' (n + 1) (xs ++ us) → (w0.alloc (.cells us.toArray e)).grownBy w' v.ownBlock → Below base w0 w' → wpList P ops Q rest (a.put o.dst v') w') :
    wpList P ops Q (o :: rest) a (w0.alloc (.cells us.toArray e)) := by
  obtain ⟨i, hi, hz0, hz1, hz2⟩ := info_parts E.info
  refine wpList_append_own _ hgd s x t ho base e i z size bytes E.und hi hz0 hz1 hz2 E.zs E.pos v n xs hs (hown.alloc _) ⟨w0.heap.size, 0, none⟩ 1 1 us hx (by rw [hus, Nat.one_mul]) ?_ ?_ h63 hbytes (by simp; omega) ?_
  · intro j y hj
    rw [add_zero_off, World.cell?_alloc_at _ _ _ _ rfl]
    simpa using hj
  · exact h1
  · intro v' w' ho' hg _
    exact h v' w' ho' hg (grown_below hown hg hbase)

/-! ### Passes, slots, options -/
open L18 (Pass Slot)
def PassC (_ : World) (cs : List Value) (p : Pass) : Prop := cs = [.int .i64 p.sat, .int .i64 p.stn, .int .i64 p.sf, .int .i64 p.su, .int .i64 p.cf, .int .i64 p.cu]
abbrev PassesAt (w : World) (v : Value) (l : List Pass) : Prop := StructsOf 6 PassC w v l
def passVal (p : Pass) : Value := .agg #[.int .i64 p.sat, .int .i64 p.stn, .int .i64 p.sf, .int .i64 p.su, .int .i64 p.cf, .int .i64 p.cu]
theorem PassesAt.later {w w' : World} {v : Value} {l : List Pass} (h : PassesAt w v l) (hb : Below w.heap.size w w') : PassesAt w' v l := StructsOf.below (R := PassC) (fun _ _ _ _ h _ => h) h hb
theorem PassesAt.get {w : World} {a : Option Addr} {len cap : Nat} {l : List Pass} (h : PassesAt w (.slice a len cap) l) {k : Nat} {x : Pass} (hk : l[k]? = some x) :
    ∃ b off, a = some ⟨b, off, none⟩ ∧ w.cell? ⟨b, off + k * 6, none⟩ = some (.int .i64 x.sat) ∧ w.cell? ⟨b, off + k * 6 + 1, none⟩ = some (.int .i64 x.stn) ∧ w.cell? ⟨b, off + k * 6 + 2, none⟩ = some (.int .i64 x.sf) ∧ w.cell? ⟨b, off + k * 6 + 3, none⟩ = some (.int .i64 x.su) ∧ w.cell? ⟨b, off + k * 6 + 4, none⟩ = some (.int .i64 x.cf) ∧ w.cell? ⟨b, off + k * 6 + 5, none⟩ = some (.int .i64 x.cu) := by
  obtain ⟨b, off, cs, e, -, h2, rfl⟩ := h.at hk
  exact ⟨b, off, e, h2 0 _ rfl, h2 1 _ rfl, h2 2 _ rfl, h2 3 _ rfl, h2 4 _ rfl, h2 5 _ rfl⟩
def SlotC (_ : World) (cs : List Value) (s : Slot) : Prop := cs = [.int .i64 s.pass, .int .i64 s.fr, .int .i64 s.to]
abbrev SlotsAt (w : World) (v : Value) (l : List Slot) : Prop := StructsOf 3 SlotC w v l
def slotVal (s : Slot) : Value := .agg #[.int .i64 s.pass, .int .i64 s.fr, .int .i64 s.to]
theorem SlotsAt.later {w w' : World} {v : Value} {l : List Slot} (h : SlotsAt w v l) (hb : Below w.heap.size w w') : SlotsAt w' v l := StructsOf.below (R := SlotC) (fun _ _ _ _ h _ => h) h hb
theorem SlotsAt.get {w : World} {a : Option Addr} {len cap : Nat} {l : List Slot} (h : SlotsAt w (.slice a len cap) l) {k : Nat} {x : Slot} (hk : l[k]? = some x) :
    ∃ b off, a = some ⟨b, off, none⟩ ∧ w.cell? ⟨b, off + k * 3, none⟩ = some (.int .i64 x.pass) ∧ w.cell? ⟨b, off + k * 3 + 1, none⟩ = some (.int .i64 x.fr) ∧ w.cell? ⟨b, off + k * 3 + 2, none⟩ = some (.int .i64 x.to) := by
  obtain ⟨b, off, cs, e, -, h2, rfl⟩ := h.at hk
  exact ⟨b, off, e, h2 0 _ rfl, h2 1 _ rfl, h2 2 _ rfl⟩
/-- What else an option has: eight numbers. -/
structure OptH where
  id : Int
  order : Int
  clause : Int
  sat : Int
  fr : Int
  to : Int
  look : Int
  size : Int
structure OptD where
  hd : OptH
  slots : List Slot
def optCells (h : OptH) (vs : Value) : List Value := [.int .i64 h.id, .int .i64 h.order, .int .i64 h.clause, .int .i64 h.sat, .int .i64 h.fr, .int .i64 h.to, .int .i64 h.look, .int .i64 h.size, vs]
def OptC (w : World) (cs : List Value) (o : OptD) : Prop := ∃ vs, cs = optCells o.hd vs ∧ SlotsAt w vs o.slots
def OptV (w : World) (v : Value) (o : OptD) : Prop := ∃ vs, v = .agg #[.int .i64 o.hd.id, .int .i64 o.hd.order, .int .i64 o.hd.clause, .int .i64 o.hd.sat, .int .i64 o.hd.fr, .int .i64 o.hd.to, .int .i64 o.hd.look, .int .i64 o.hd.size, vs] ∧ SlotsAt w vs o.slots
theorem OptC.below {w w' : World} {cs : List Value} {o : OptD} (h : OptC w cs o) (hb : Below w.heap.size w w') : OptC w' cs o := by
  obtain ⟨vs, e, hs⟩ := h; exact ⟨vs, e, hs.later hb⟩
theorem OptV.below {w w' : World} {v : Value} {o : OptD} (h : OptV w v o) (hb : Below w.heap.size w w') : OptV w' v o := by
  obtain ⟨vs, e, hs⟩ := h; exact ⟨vs, e, hs.later hb⟩
abbrev OptsAt (w : World) (v : Value) (l : List OptD) : Prop := StructsOf 9 OptC w v l
theorem OptsAt.later {w w' : World} {v : Value} {l : List OptD} (h : OptsAt w v l) (hb : Below w.heap.size w w') : OptsAt w' v l := StructsOf.below (R := OptC) (fun _ _ _ _ h hb => h.below hb) h hb
theorem OptsAt.get {w : World} {a : Option Addr} {len cap : Nat} {l : List OptD} (h : OptsAt w (.slice a len cap) l) {k : Nat} {x : OptD} (hk : l[k]? = some x) :
    ∃ b off vs, a = some ⟨b, off, none⟩ ∧ w.cell? ⟨b, off + k * 9, none⟩ = some (.int .i64 x.hd.id) ∧ w.cell? ⟨b, off + k * 9 + 1, none⟩ = some (.int .i64 x.hd.order) ∧ w.cell? ⟨b, off + k * 9 + 2, none⟩ = some (.int .i64 x.hd.clause) ∧ w.cell? ⟨b, off + k * 9 + 3, none⟩ = some (.int .i64 x.hd.sat) ∧ w.cell? ⟨b, off + k * 9 + 4, none⟩ = some (.int .i64 x.hd.fr) ∧ w.cell? ⟨b, off + k * 9 + 5, none⟩ = some (.int .i64 x.hd.to) ∧ w.cell? ⟨b, off + k * 9 + 6, none⟩ = some (.int .i64 x.hd.look) ∧ w.cell? ⟨b, off + k * 9 + 7, none⟩ = some (.int .i64 x.hd.size) ∧ w.cell? ⟨b, off + k * 9 + 8, none⟩ = some vs ∧ SlotsAt w vs x.slots := by
  obtain ⟨b, off, cs, e, -, h2, vs, rfl, hs⟩ := h.at hk
  exact ⟨b, off, vs, e, h2 0 _ rfl, h2 1 _ rfl, h2 2 _ rfl, h2 3 _ rfl, h2 4 _ rfl, h2 5 _ rfl, h2 6 _ rfl, h2 7 _ rfl, h2 8 _ rfl, hs⟩
end Go.Proofs.Ytmajkagmcdlncaa
