/- Slices of structs, read. -/
import Derived.Test.YtfmdpmcniccioaaReadY
namespace Go.Proofs.Ytfmdpmcniccioaa
open Go.ChangeShapes Go.WideShapes Go.ChangeAt Go.RowKit

/-- A slice of elements of n cells each; R says what an element's cells are. -/
def StructsOf {α : Type} (n : Nat) (R : World → List Value → α → Prop) (w : World) (v : Value) (l : List α) : Prop :=
  ∃ (a : Option Addr) (cap : Nat), v = .slice a l.length cap ∧ l.length ≤ cap ∧ cap ≤ maxLen ∧
    (0 < l.length → ∃ b off, a = some ⟨b, off, none⟩ ∧ ∀ j y, l[j]? = some y → ∃ cs, cs.length = n ∧ (∀ i c, cs[i]? = some c → w.cell? ⟨b, off + j * n + i, none⟩ = some c) ∧ R w cs y)
theorem StructsOf.below {α : Type} {n : Nat} {R : World → List Value → α → Prop} (hR : ∀ (w w' : World) (cs : List Value) (y : α), R w cs y → Below w.heap.size w w' → R w' cs y)
    {w w' : World} {v : Value} {l : List α} (h : StructsOf n R w v l) (hb : Below w.heap.size w w') : StructsOf n R w' v l := by
  obtain ⟨a, cap, h1, h2, h3, h4⟩ := h
  refine ⟨a, cap, h1, h2, h3, fun hl => ?_⟩
  obtain ⟨b, off, rfl, h5⟩ := h4 hl
  refine ⟨b, off, rfl, fun j y hj => ?_⟩
  obtain ⟨cs, c1, c2, c3⟩ := h5 j y hj
  exact ⟨cs, c1, fun i c hc => (hb.cell (World.block_lt_of_cell? _ _ (c2 i c hc))).trans (c2 i c hc), hR _ _ _ _ c3 hb⟩
theorem StructsOf.at {α : Type} {n : Nat} {R : World → List Value → α → Prop} {w : World} {a : Option Addr} {len cap : Nat} {l : List α} (h : StructsOf n R w (.slice a len cap) l) {k : Nat} {y : α} (hk : l[k]? = some y) :
    ∃ b off cs, a = some ⟨b, off, none⟩ ∧ cs.length = n ∧ (∀ i c, cs[i]? = some c → w.cell? ⟨b, off + k * n + i, none⟩ = some c) ∧ R w cs y := by
  obtain ⟨a', cap', e, h2, h3, h4⟩ := h
  have hl : 0 < l.length := by
    refine Classical.byContradiction fun hc => ?_
    rw [List.getElem?_eq_none (by omega)] at hk; cases hk
  obtain ⟨b, off, rfl, h5⟩ := h4 hl
  obtain ⟨cs, c1, c2, c3⟩ := h5 k y hk
  cases e
  exact ⟨b, off, cs, rfl, c1, c2, c3⟩
theorem StructsOf.len {α : Type} {n : Nat} {R : World → List Value → α → Prop} {w : World} {v : Value} {l : List α} (h : StructsOf n R w v l) : ∃ (a : Option Addr) (cap : Nat), v = .slice a l.length cap ∧ l.length ≤ cap ∧ cap ≤ maxLen := by
  obtain ⟨a, cap, h1, h2, h3, -⟩ := h; exact ⟨a, cap, h1, h2, h3⟩
theorem addr_add (b off d : Nat) : (⟨b, off, none⟩ : Addr).add d = ⟨b, off + d, none⟩ := by
  unfold Addr.add; split <;> simp_all
section
variable {H : Type} {enc : TypeId × Value → H} {P : Program}
theorem cells_get {w : World} {a : Addr} {n : Nat} {cs : List Value} (h : w.cells? 0 a n = some cs) : cs.length = n ∧ ∀ i c, cs[i]? = some c → w.cell? (a.add i) = some c := by
  unfold World.cells? at h
  rw [if_pos (Nat.zero_le _)] at h
  have hl : cs.length = n := by have := mapM_len h; simpa using this
  refine ⟨hl, fun i c hc => ?_⟩
  have hi : i < n := by
    rw [← hl]
    refine Classical.byContradiction fun h2 => ?_
    rw [List.getElem?_eq_none (by omega)] at hc; cases hc
  obtain ⟨x, hx1, hx2⟩ := Lib.mapM_at h i i (by simp [hi])
  rw [hc] at hx1
  cases hx1
  exact hx2
/-- A slice of structs of n cells, opened by what one element's reading tells. -/
theorem slice_structs {α : Type} (n : Nat) (R : World → List Value → α → Prop) (hn : 0 < n) {w : World} {r : Reach} {b0 : Nat} {spare : Nat → Bool} {held : Bool} {t e : TypeId} {v : Value} {d : DataW H} {p : List MemPlace}
    (ht : P.underlying t = some (.slice e)) (hce : P.cellsOf e = n)
    (hinv : ∀ (m : Nat) (cs : List Value) (x : DataW H × List MemPlace), cs.length = n → DataW.trod enc P w 0 spare held m e cs = some x → ∃ y, R w cs y)
    (hv : Value.okWide P w r b0 t v) (h : DataW.Trod enc P w 0 spare held t v d p) : ∃ l : List α, StructsOf n R w v l := by
  obtain ⟨a, len, cap, rfl⟩ := okWide_slice ht hv
  obtain ⟨fuel, hf⟩ := h
  cases fuel with
  | zero => simp [DataW.trod] at hf
  | succ fuel =>
    unfold DataW.trod at hf
    simp only [ht, Value.cells] at hf
    cases a with
    | none =>
      cases len with
      | zero =>
        cases cap with
        | zero => exact ⟨[], ⟨none, 0, rfl, Nat.le_refl _, Nat.zero_le _, fun h => absurd h (Nat.lt_irrefl 0)⟩⟩
        | succ c => simp at hf
      | succ l => simp at hf
    | some a =>
      simp only [hce] at hf
      split at hf
      · rename_i hc
        obtain ⟨elems, he2, -⟩ := Option.bind_eq_some_iff.1 hf
        have hcell : ∀ i, i < len → ∃ y : α, ∃ cs : List Value, cs.length = n ∧ (∀ k c, cs[k]? = some c → w.cell? ((a.add (i * n)).add k) = some c) ∧ R w cs y := by
          intro i hi
          obtain ⟨x, -, hx⟩ := Lib.mapM_at he2 i i (by simp [hi])
          obtain ⟨cs, hcs, hx3⟩ := Option.bind_eq_some_iff.1 hx
          obtain ⟨hl, hg⟩ := cells_get hcs
          obtain ⟨y, hy⟩ := hinv _ _ _ hl hx3
          exact ⟨y, cs, hl, hg, hy⟩
        obtain ⟨l, hl1, hl2⟩ := choose_list (fun i (y : α) => ∃ cs : List Value, cs.length = n ∧ (∀ k c, cs[k]? = some c → w.cell? ((a.add (i * n)).add k) = some c) ∧ R w cs y) len hcell
        subst hl1
        refine ⟨l, ⟨some a, cap, rfl, hc.2.1, hc.2.2, fun h0 => ?_⟩⟩
        obtain ⟨cs0, q0, q1, -⟩ := hl2 0 (l[0]'h0) (List.getElem?_eq_getElem h0)
        have hs := spot_none (q1 0 _ (List.getElem?_eq_getElem (by omega)))
        obtain ⟨b, o, sp⟩ := a
        simp [Addr.add] at hs
        subst hs
        refine ⟨b, o, rfl, fun j y hj => ?_⟩
        obtain ⟨cs, k0, k1, k2⟩ := hl2 j y hj
        refine ⟨cs, k0, fun i c hc2 => ?_, k2⟩
        have := k1 i c hc2
        rwa [addr_add, addr_add] at this
      · cases hf
end
/-- A write that a caller describes, at three cells. -/
def WpC (_ : World) (cs : List Value) (x : WP) : Prop := cs = [.int .i64 x.off, .string x.s, .bool x.sync] ∧ InR x.off ∧ x.s.size ≤ maxLen
abbrev WpsAt (w : World) (v : Value) (l : List WP) : Prop := StructsOf 3 WpC w v l
theorem WpsAt.below' {w w' : World} {v : Value} {l : List WP} (h : WpsAt w v l) (hb : Below w.heap.size w w') : WpsAt w' v l := StructsOf.below (R := WpC) (fun _ _ _ _ h _ => h) h hb
theorem WpsAt.get {w : World} {a : Option Addr} {len cap : Nat} {l : List WP} (h : WpsAt w (.slice a len cap) l) {k : Nat} {x : WP} (hk : l[k]? = some x) :
    ∃ b off, a = some ⟨b, off, none⟩ ∧ w.cell? ⟨b, off + k * 3, none⟩ = some (.int .i64 x.off) ∧ w.cell? ⟨b, off + k * 3 + 1, none⟩ = some (.string x.s) ∧ w.cell? ⟨b, off + k * 3 + 2, none⟩ = some (.bool x.sync) ∧ InR x.off ∧ x.s.size ≤ maxLen := by
  obtain ⟨b, off, cs, e, -, h2, rfl, h3, h4⟩ := h.at hk
  exact ⟨b, off, e, h2 0 _ rfl, h2 1 _ rfl, h2 2 _ rfl, h3, h4⟩
set_option maxRecDepth 100000 in
theorem trod_wp {H : Type} {enc : TypeId × Value → H} {w : World} {base : Nat} {spare : Nat → Bool} {held : Bool} {fuel : Nat} {cs : List Value} {r : DataW H × List MemPlace} (hcs : cs.length = 3)
    (h : DataW.trod enc Try.prog w base spare held fuel 53 cs = some r) : ∃ t : WP, WpC w cs t := by
  obtain ⟨xs, n, -, -, -, hlen, hf⟩ := DataW.trod_struct Try.underlying53 h
  match cs, hcs with
  | [x, y, z], _ =>
    have c3 : Try.prog.cellsOf 3 = 1 := by kernel_rfl
    have c9 : Try.prog.cellsOf 9 = 1 := by kernel_rfl
    have c4 : Try.prog.cellsOf 4 = 1 := by kernel_rfl
    have hl : xs.length = 3 := hlen
    have h0 : DataW.trod enc Try.prog w base spare held n 3 (([x, y, z].drop 0).take (Try.prog.cellsOf 3)) = xs[0]? := hf 0 _ rfl
    have h1 : DataW.trod enc Try.prog w base spare held n 9 (([x, y, z].drop 1).take (Try.prog.cellsOf 9)) = xs[1]? := hf 1 _ rfl
    have h2 : DataW.trod enc Try.prog w base spare held n 4 (([x, y, z].drop 2).take (Try.prog.cellsOf 4)) = xs[2]? := hf 2 _ rfl
    rw [c3, List.getElem?_eq_getElem (by omega)] at h0
    rw [c9, List.getElem?_eq_getElem (by omega)] at h1
    rw [c4, List.getElem?_eq_getElem (by omega)] at h2
    obtain ⟨o, e0, w0⟩ := inv_int Try.underlying3 _ _ _ h0
    obtain ⟨s, e1, w1⟩ := inv_string Try.underlying9 _ _ _ h1
    obtain ⟨b, e2, -⟩ := DataW.trod_bool Try.underlying4 h2
    have e2' : z = .bool b := by simpa using e2
    subst e0 e1 e2'
    exact ⟨⟨o, s, b⟩, rfl, inR_wf w0, w1⟩
set_option maxRecDepth 100000 in
theorem slice_wps {H : Type} {enc : TypeId × Value → H} {w : World} {r : Reach} {b0 : Nat} {spare : Nat → Bool} {held : Bool} {v : Value} {d : DataW H} {p : List MemPlace}
    (hv : Value.okWide Try.prog w r b0 51 v) (h : DataW.Trod enc Try.prog w 0 spare held 51 v d p) : ∃ l : List WP, WpsAt w v l :=
  slice_structs 3 WpC (by decide) Try.underlying51 (by kernel_rfl) (fun _ _ _ hl hx => trod_wp hl hx) hv h
end Go.Proofs.Ytfmdpmcniccioaa
