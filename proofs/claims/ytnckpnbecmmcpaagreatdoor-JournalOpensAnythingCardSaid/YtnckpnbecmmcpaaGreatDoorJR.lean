/- Slices of slices and of structs as arguments. -/
import Derived.Test.YtnckpnbecmmcpaaGreatDoorJM
import Derived.Test.YtnckpnbecmmcpaaGreatDoorRead
namespace Go.Proofs.YtnckpnbecmmcpaaGreatDoor
open Go.ChangeShapes Go.WideShapes Go.ChangeAt Go.RowKit
/-- A slice of elements of n cells each; R says what an element's cells are. -/
def StructsOf {α : Type} (n : Nat) (R : World → List Value → α → Prop) (w : World) (v : Value) (l : List α) : Prop :=
  ∃ (a : Option Addr) (cap : Nat), v = .slice a l.length cap ∧ l.length ≤ cap ∧ cap ≤ maxLen ∧
    (0 < l.length → ∃ b off, a = some ⟨b, off, none⟩ ∧ ∀ j y, l[j]? = some y → ∃ cs, cs.length = n ∧ (∀ i c, cs[i]? = some c → w.cell? ⟨b, off + j * n + i, none⟩ = some c) ∧ R w cs y)
theorem StructsOf.below {α : Type} {n : Nat} {R : World → List Value → α → Prop} (hR : ∀ (w w' : World) (cs : List Value) (y : α), R w cs y → Below w.heap.size w w' → R w' cs y)
    {w w' : World} {v : Value} {l : List α} (h : StructsOf n R w v l) (hb : Below w.heap.size w w') : StructsOf n R w' v l := by
  obtain ⟨a, cap, h1, h2, h3, h4⟩ := h
  refine ⟨a, cap, h1, h2, h3, fun hl => ?_⟩
  obtain ⟨b, off, rfl, h5⟩ := h4 hl
  refine ⟨b, off, rfl, fun j y hj => ?_⟩
  obtain ⟨cs, c1, c2, c3⟩ := h5 j y hj
  exact ⟨cs, c1, fun i c hc => (hb.cell (World.block_lt_of_cell? _ _ (c2 i c hc))).trans (c2 i c hc), hR _ _ _ _ c3 hb⟩
theorem StructsOf.at {α : Type} {n : Nat} {R : World → List Value → α → Prop} {w : World} {a : Option Addr} {len cap : Nat} {l : List α} (h : StructsOf n R w (.slice a len cap) l) {k : Nat} {y : α} (hk : l[k]? = some y) :
    ∃ b off cs, a = some ⟨b, off, none⟩ ∧ cs.length = n ∧ (∀ i c, cs[i]? = some c → w.cell? ⟨b, off + k * n + i, none⟩ = some c) ∧ R w cs y := by
  obtain ⟨a', cap', e, h2, h3, h4⟩ := h
  have hl : 0 < l.length := by
    refine Classical.byContradiction fun hc => ?_
    rw [List.getElem?_eq_none (by omega)] at hk; cases hk
  obtain ⟨b, off, rfl, h5⟩ := h4 hl
  obtain ⟨cs, c1, c2, c3⟩ := h5 k y hk
  cases e
  exact ⟨b, off, cs, rfl, c1, c2, c3⟩
theorem StructsOf.len {α : Type} {n : Nat} {R : World → List Value → α → Prop} {w : World} {v : Value} {l : List α} (h : StructsOf n R w v l) : ∃ (a : Option Addr) (cap : Nat), v = .slice a l.length cap ∧ l.length ≤ cap ∧ cap ≤ maxLen := by
  obtain ⟨a, cap, h1, h2, h3, -⟩ := h; exact ⟨a, cap, h1, h2, h3⟩
theorem addr_add (b off d : Nat) : (⟨b, off, none⟩ : Addr).add d = ⟨b, off + d, none⟩ := by
  unfold Addr.add; split <;> simp_all
section
variable {H : Type} {enc : TypeId × Value → H} {P : Program}
theorem cells_get {w : World} {a : Addr} {n : Nat} {cs : List Value} (h : w.cells? 0 a n = some cs) : cs.length = n ∧ ∀ i c, cs[i]? = some c → w.cell? (a.add i) = some c := by
  unfold World.cells? at h
  rw [if_pos (Nat.zero_le _)] at h
  have hl : cs.length = n := by have := mapM_len h; simpa using this
  refine ⟨hl, fun i c hc => ?_⟩
  have hi : i < n := by
    rw [← hl]
    refine Classical.byContradiction fun h2 => ?_
    rw [List.getElem?_eq_none (by omega)] at hc; cases hc
  obtain ⟨x, hx1, hx2⟩ := Lib.mapM_at h i i (by simp [hi])
  rw [hc] at hx1
  cases hx1
  exact hx2
/-- A slice of structs of n cells, opened by what one element's reading tells. -/
theorem slice_structs {α : Type} (n : Nat) (R : World → List Value → α → Prop) (hn : 0 < n) {w : World} {r : Reach} {b0 : Nat} {spare : Nat → Bool} {held : Bool} {t e : TypeId} {v : Value} {d : DataW H} {p : List MemPlace}
    (ht : P.underlying t = some (.slice e)) (hce : P.cellsOf e = n)
    (hinv : ∀ (m : Nat) (cs : List Value) (x : DataW H × List MemPlace), cs.length = n → DataW.trod enc P w 0 spare held m e cs = some x → ∃ y, R w cs y)
    (hv : Value.okWide P w r b0 t v) (h : DataW.Trod enc P w 0 spare held t v d p) : ∃ l : List α, StructsOf n R w v l := by
  obtain ⟨a, len, cap, rfl⟩ := okWide_slice ht hv
  obtain ⟨fuel, hf⟩ := h
  cases fuel with
  | zero => simp [DataW.trod] at hf
  | succ fuel =>
    unfold DataW.trod at hf
    simp only [ht, Value.cells] at hf
    cases a with
    | none =>
      cases len with
      | zero =>
        cases cap with
        | zero => exact ⟨[], ⟨none, 0, rfl, Nat.le_refl _, Nat.zero_le _, fun h => absurd h (Nat.lt_irrefl 0)⟩⟩
        | succ c => simp at hf
      | succ l => simp at hf
    | some a =>
      simp only [hce] at hf
      split at hf
      · rename_i hc
        obtain ⟨elems, he2, -⟩ := Option.bind_eq_some_iff.1 hf
        have hcell : ∀ i, i < len → ∃ y : α, ∃ cs : List Value, cs.length = n ∧ (∀ k c, cs[k]? = some c → w.cell? ((a.add (i * n)).add k) = some c) ∧ R w cs y := by
          intro i hi
          obtain ⟨x, -, hx⟩ := Lib.mapM_at he2 i i (by simp [hi])
          obtain ⟨cs, hcs, hx3⟩ := Option.bind_eq_some_iff.1 hx
          obtain ⟨hl, hg⟩ := cells_get hcs
          obtain ⟨y, hy⟩ := hinv _ _ _ hl hx3
          exact ⟨y, cs, hl, hg, hy⟩
        obtain ⟨l, hl1, hl2⟩ := choose_list (fun i (y : α) => ∃ cs : List Value, cs.length = n ∧ (∀ k c, cs[k]? = some c → w.cell? ((a.add (i * n)).add k) = some c) ∧ R w cs y) len hcell
        subst hl1
        refine ⟨l, ⟨some a, cap, rfl, hc.2.1, hc.2.2, fun h0 => ?_⟩⟩
        obtain ⟨cs0, q0, q1, -⟩ := hl2 0 (l[0]'h0) (List.getElem?_eq_getElem h0)
        have hs := spot_none (q1 0 _ (List.getElem?_eq_getElem (by omega)))
        obtain ⟨b, o, sp⟩ := a
        simp [Addr.add] at hs
        subst hs
        refine ⟨b, o, rfl, fun j y hj => ?_⟩
        obtain ⟨cs, k0, k1, k2⟩ := hl2 j y hj
        refine ⟨cs, k0, fun i c hc2 => ?_, k2⟩
        have := k1 i c hc2
        rwa [addr_add, addr_add] at this
      · cases hf
end
section
variable {H : Type} {enc : TypeId × Value → H} {P : Program}
/-- A slice of elements of n cells, within a struct, opened. -/
theorem nest_structs {α : Type} (n : Nat) (R : World → List Value → α → Prop) (hn : 0 < n) {w : World} {fuel : Nat} {spare : Nat → Bool} {held : Bool} {t e : TypeId} {cs : List Value} {x : DataW H × List MemPlace}
    (ht : P.underlying t = some (.slice e)) (hce : P.cellsOf e = n)
    (hinv : ∀ (m : Nat) (cs : List Value) (x : DataW H × List MemPlace), cs.length = n → DataW.trod enc P w 0 spare held m e cs = some x → ∃ y, R w cs y)
    (h : DataW.trod enc P w 0 spare held fuel t cs = some x) : ∃ v, ∃ l : List α, cs = [v] ∧ StructsOf n R w v l := by
  rcases DataW.trod_slice ht h with ⟨rfl, -⟩ | ⟨a, len, cap, elems, rest, m, -, rfl, -, -, h1, h2, h3, h4, -, -⟩
  · exact ⟨_, [], rfl, none, 0, rfl, Nat.le_refl _, Nat.zero_le _, fun h => absurd h (Nat.lt_irrefl 0)⟩
  · rw [hce] at h4
    have hcell : ∀ i, i < len → ∃ y : α, ∃ cs : List Value, cs.length = n ∧ (∀ k c, cs[k]? = some c → w.cell? ((a.add (i * n)).add k) = some c) ∧ R w cs y := by
      intro i hi
      have hx := (h4 i hi).trans (List.getElem?_eq_getElem (by omega))
      obtain ⟨cs, hcs, hx3⟩ := Option.bind_eq_some_iff.1 hx
      obtain ⟨hl, hg⟩ := cells_get hcs
      obtain ⟨y, hy⟩ := hinv _ _ _ hl hx3
      exact ⟨y, cs, hl, hg, hy⟩
    obtain ⟨l, hl1, hl2⟩ := choose_list (fun i (y : α) => ∃ cs : List Value, cs.length = n ∧ (∀ k c, cs[k]? = some c → w.cell? ((a.add (i * n)).add k) = some c) ∧ R w cs y) len hcell
    subst hl1
    refine ⟨_, l, rfl, some a, cap, rfl, h1, h2, fun h0 => ?_⟩
    obtain ⟨cs0, q0, q1, -⟩ := hl2 0 (l[0]'h0) (List.getElem?_eq_getElem h0)
    have hs := spot_none (q1 0 _ (List.getElem?_eq_getElem (by omega)))
    obtain ⟨b, o, sp⟩ := a
    simp [Addr.add] at hs
    subst hs
    refine ⟨b, o, rfl, fun j y hj => ?_⟩
    obtain ⟨cs, k0, k1, k2⟩ := hl2 j y hj
    refine ⟨cs, k0, fun i c hc2 => ?_, k2⟩
    have := k1 i c hc2
    rwa [addr_add, addr_add] at this
theorem nest_ints {w : World} {fuel : Nat} {spare : Nat → Bool} {held : Bool} {t e : TypeId} {cs : List Value} {x : DataW H × List MemPlace}
    (ht : P.underlying t = some (.slice e)) (hce : P.cellsOf e = 1) (he : P.underlying e = some (.int .i64)) (h : DataW.trod enc P w 0 spare held fuel t cs = some x) : ∃ v, ∃ l : List Int, cs = [v] ∧ IntsAt w v l := by
  obtain ⟨v, l, rfl, a, cap, h1, h2, h3, h4⟩ := nest_structs 1 (fun _ cs (y : Int) => cs = [.int .i64 y]) (by decide) ht hce (fun m cs x hl hx => by
    match cs, hl with
    | [c], _ =>
      obtain ⟨y, e1, -⟩ := inv_int he m c x hx
      exact ⟨y, by rw [e1]⟩) h
  refine ⟨v, l, rfl, a, cap, h1, h2, h3, fun hl => ?_⟩
  obtain ⟨b, off, e1, h5⟩ := h4 hl
  refine ⟨b, off, e1, fun j y hj => ?_⟩
  obtain ⟨cs, -, c2, rfl⟩ := h5 j y hj
  have := c2 0 _ rfl
  simpa using this
end
/-- A group of strings, at one cell. -/
def GrC (w : World) (cs : List Value) (y : List ByteArray) : Prop := ∃ v, cs = [v] ∧ StrsAt w v y ∧ ∀ t ∈ y, t.size ≤ 9223372036854775807
abbrev GrpsAt (w : World) (v : Value) (l : List (List ByteArray)) : Prop := StructsOf 1 GrC w v l
theorem GrpsAt.below' {w w' : World} {v : Value} {l : List (List ByteArray)} (h : GrpsAt w v l) (hb : Below w.heap.size w w') : GrpsAt w' v l :=
  StructsOf.below (R := GrC) (fun _ _ _ _ ⟨v, e, h1, h2⟩ hb => ⟨v, e, h1.below hb, h2⟩) h hb
theorem GrpsAt.get {w : World} {a : Option Addr} {len cap : Nat} {l : List (List ByteArray)} (h : GrpsAt w (.slice a len cap) l) {k : Nat} {x : List ByteArray} (hk : l[k]? = some x) :
    ∃ b off v, a = some ⟨b, off, none⟩ ∧ w.cell? ⟨b, off + k, none⟩ = some v ∧ StrsAt w v x ∧ ∀ t ∈ x, t.size ≤ 9223372036854775807 := by
  obtain ⟨b, off, cs, e, -, h2, v, rfl, h3, h4⟩ := h.at hk
  have := h2 0 _ rfl
  rw [Nat.mul_one] at this
  exact ⟨b, off, v, e, this, h3, h4⟩
/-- A call that a caller describes, at four cells. -/
structure OpD where
  kind : Int
  L : List ByteArray
  N : Int
  keep : List Int
def OpC (w : World) (cs : List Value) (y : OpD) : Prop := ∃ v vk, cs = [.int .i64 y.kind, v, .int .i64 y.N, vk] ∧ StrsAt w v y.L ∧ (∀ t ∈ y.L, t.size ≤ 9223372036854775807) ∧ IntsAt w vk y.keep ∧ InR y.kind ∧ InR y.N
abbrev OpsAt (w : World) (v : Value) (l : List OpD) : Prop := StructsOf 4 OpC w v l
theorem OpsAt.below' {w w' : World} {v : Value} {l : List OpD} (h : OpsAt w v l) (hb : Below w.heap.size w w') : OpsAt w' v l :=
  StructsOf.below (R := OpC) (fun _ _ _ _ ⟨v, vk, e, h1, h2, h3, h4⟩ hb => ⟨v, vk, e, h1.below hb, h2, h3.below hb, h4⟩) h hb
theorem OpsAt.get {w : World} {a : Option Addr} {len cap : Nat} {l : List OpD} (h : OpsAt w (.slice a len cap) l) {k : Nat} {x : OpD} (hk : l[k]? = some x) :
    ∃ b off v vk, a = some ⟨b, off, none⟩ ∧ w.cell? ⟨b, off + k * 4, none⟩ = some (.int .i64 x.kind) ∧ w.cell? ⟨b, off + k * 4 + 1, none⟩ = some v ∧ w.cell? ⟨b, off + k * 4 + 2, none⟩ = some (.int .i64 x.N) ∧ w.cell? ⟨b, off + k * 4 + 3, none⟩ = some vk ∧
      StrsAt w v x.L ∧ (∀ t ∈ x.L, t.size ≤ 9223372036854775807) ∧ IntsAt w vk x.keep ∧ InR x.kind ∧ InR x.N := by
  obtain ⟨b, off, cs, e, -, h2, v, vk, rfl, h3⟩ := h.at hk
  exact ⟨b, off, v, vk, e, h2 0 _ rfl, h2 1 _ rfl, h2 2 _ rfl, h2 3 _ rfl, h3⟩
theorem ints_len {w : World} {v : Value} {l : List Int} (h : IntsAt w v l) : ∃ a c, v = .slice a l.length c ∧ l.length ≤ c ∧ c ≤ maxLen := by
  obtain ⟨a', c', e, h1, h2, h3⟩ := h
  exact ⟨a', c', e, h1, h2⟩
theorem strs_nil (W : World) : StrsAt W (.slice none 0 0) [] := ⟨none, 0, rfl, Nat.le_refl _, by unfold maxLen; omega, fun h => absurd h (by simp)⟩
end Go.Proofs.YtnckpnbecmmcpaaGreatDoor
