/- A slice of calls (structs with a slice in them) as an argument, opened. -/
import Derived.Test.YtfmdpmcniccioaaL4a
namespace Go.Proofs.Ytfmdpmcniccioaa
open Go.ChangeShapes Go.WideShapes Go.ChangeAt Go.RowKit
section
variable {H : Type} {enc : TypeId × Value → H} {P : Program}
/-- A slice of elements of n cells, within a struct, opened. -/
theorem nest_structs {α : Type} (n : Nat) (R : World → List Value → α → Prop) (hn : 0 < n) {w : World} {fuel : Nat} {spare : Nat → Bool} {held : Bool} {t e : TypeId} {cs : List Value} {x : DataW H × List MemPlace}
    (ht : P.underlying t = some (.slice e)) (hce : P.cellsOf e = n)
    (hinv : ∀ (m : Nat) (cs : List Value) (x : DataW H × List MemPlace), cs.length = n → DataW.trod enc P w 0 spare held m e cs = some x → ∃ y, R w cs y)
    (h : DataW.trod enc P w 0 spare held fuel t cs = some x) : ∃ v, ∃ l : List α, cs = [v] ∧ StructsOf n R w v l := by
  rcases DataW.trod_slice ht h with ⟨rfl, -⟩ | ⟨a, len, cap, elems, rest, m, -, rfl, -, -, h1, h2, h3, h4, -, -⟩
  · exact ⟨_, [], rfl, none, 0, rfl, Nat.le_refl _, Nat.zero_le _, fun h => absurd h (Nat.lt_irrefl 0)⟩
  · rw [hce] at h4
    have hcell : ∀ i, i < len → ∃ y : α, ∃ cs : List Value, cs.length = n ∧ (∀ k c, cs[k]? = some c → w.cell? ((a.add (i * n)).add k) = some c) ∧ R w cs y := by
      intro i hi
      have hx := (h4 i hi).trans (List.getElem?_eq_getElem (by omega))
      obtain ⟨cs, hcs, hx3⟩ := Option.bind_eq_some_iff.1 hx
      obtain ⟨hl, hg⟩ := cells_get hcs
      obtain ⟨y, hy⟩ := hinv _ _ _ hl hx3
      exact ⟨y, cs, hl, hg, hy⟩
    obtain ⟨l, hl1, hl2⟩ := choose_list (fun i (y : α) => ∃ cs : List Value, cs.length = n ∧ (∀ k c, cs[k]? = some c → w.cell? ((a.add (i * n)).add k) = some c) ∧ R w cs y) len hcell
    subst hl1
    refine ⟨_, l, rfl, some a, cap, rfl, h1, h2, fun h0 => ?_⟩
    obtain ⟨cs0, q0, q1, -⟩ := hl2 0 (l[0]'h0) (List.getElem?_eq_getElem h0)
    have hs := spot_none (q1 0 _ (List.getElem?_eq_getElem (by omega)))
    obtain ⟨b, o, sp⟩ := a
    simp [Addr.add] at hs
    subst hs
    refine ⟨b, o, rfl, fun j y hj => ?_⟩
    obtain ⟨cs, k0, k1, k2⟩ := hl2 j y hj
    refine ⟨cs, k0, fun i c hc2 => ?_, k2⟩
    have := k1 i c hc2
    rwa [addr_add, addr_add] at this
theorem nest_ints {w : World} {fuel : Nat} {spare : Nat → Bool} {held : Bool} {t e : TypeId} {cs : List Value} {x : DataW H × List MemPlace}
    (ht : P.underlying t = some (.slice e)) (hce : P.cellsOf e = 1) (he : P.underlying e = some (.int .i64)) (h : DataW.trod enc P w 0 spare held fuel t cs = some x) : ∃ v, ∃ l : List Int, cs = [v] ∧ IntsAt w v l := by
  obtain ⟨v, l, rfl, a, cap, h1, h2, h3, h4⟩ := nest_structs 1 (fun _ cs (y : Int) => cs = [.int .i64 y]) (by decide) ht hce (fun m cs x hl hx => by
    match cs, hl with
    | [c], _ =>
      obtain ⟨y, e1, -⟩ := inv_int he m c x hx
      exact ⟨y, by rw [e1]⟩) h
  refine ⟨v, l, rfl, a, cap, h1, h2, h3, fun hl => ?_⟩
  obtain ⟨b, off, e1, h5⟩ := h4 hl
  refine ⟨b, off, e1, fun j y hj => ?_⟩
  obtain ⟨cs, -, c2, rfl⟩ := h5 j y hj
  have := c2 0 _ rfl
  simpa using this
end
/-- A call that a caller describes, at five cells. -/
def StC (w : World) (cs : List Value) (y : StD) : Prop := ∃ vk, cs = [.int .i64 y.call, .int .i64 y.off, .int .i64 y.n, .string y.s, vk] ∧ IntsAt w vk y.keep ∧ InR y.call ∧ InR y.n
abbrev StsAt (w : World) (v : Value) (l : List StD) : Prop := StructsOf 5 StC w v l
theorem StsAt.below' {w w' : World} {v : Value} {l : List StD} (h : StsAt w v l) (hb : Below w.heap.size w w') : StsAt w' v l :=
  StructsOf.below (R := StC) (fun _ _ _ _ ⟨vk, e, h1, h2, h3⟩ hb => ⟨vk, e, h1.below hb, h2, h3⟩) h hb
theorem StsAt.get {w : World} {a : Option Addr} {len cap : Nat} {l : List StD} (h : StsAt w (.slice a len cap) l) {k : Nat} {x : StD} (hk : l[k]? = some x) :
    ∃ b off vk, a = some ⟨b, off, none⟩ ∧ w.cell? ⟨b, off + k * 5, none⟩ = some (.int .i64 x.call) ∧ w.cell? ⟨b, off + k * 5 + 1, none⟩ = some (.int .i64 x.off) ∧ w.cell? ⟨b, off + k * 5 + 2, none⟩ = some (.int .i64 x.n) ∧ w.cell? ⟨b, off + k * 5 + 3, none⟩ = some (.string x.s) ∧ w.cell? ⟨b, off + k * 5 + 4, none⟩ = some vk ∧ IntsAt w vk x.keep ∧ InR x.call ∧ InR x.n := by
  obtain ⟨b, off, cs, e, -, h2, vk, rfl, h3, h4, h5⟩ := h.at hk
  exact ⟨b, off, vk, e, h2 0 _ rfl, h2 1 _ rfl, h2 2 _ rfl, h2 3 _ rfl, h2 4 _ rfl, h3, h4, h5⟩
set_option maxRecDepth 100000 in
theorem trod_st {H : Type} {enc : TypeId × Value → H} {w : World} {spare : Nat → Bool} {held : Bool} {fuel : Nat} {cs : List Value} {r : DataW H × List MemPlace} (hcs : cs.length = 5)
    (h : DataW.trod enc Try.prog w 0 spare held fuel 39 cs = some r) : ∃ t : StD, StC w cs t := by
  obtain ⟨xs, n, -, -, -, hlen, hf⟩ := DataW.trod_struct Try.underlying39 h
  match cs, hcs with
  | [q0, q1, q2, q3, q4], _ =>
    have c3 : Try.prog.cellsOf 3 = 1 := by kernel_rfl
    have c9 : Try.prog.cellsOf 9 = 1 := by kernel_rfl
    have c37 : Try.prog.cellsOf 37 = 1 := by kernel_rfl
    have hl : xs.length = 5 := hlen
    have h0 : DataW.trod enc Try.prog w 0 spare held n 3 (([q0, q1, q2, q3, q4].drop 0).take (Try.prog.cellsOf 3)) = xs[0]? := hf 0 _ rfl
    have h1 : DataW.trod enc Try.prog w 0 spare held n 3 (([q0, q1, q2, q3, q4].drop 1).take (Try.prog.cellsOf 3)) = xs[1]? := hf 1 _ rfl
    have h2 : DataW.trod enc Try.prog w 0 spare held n 3 (([q0, q1, q2, q3, q4].drop 2).take (Try.prog.cellsOf 3)) = xs[2]? := hf 2 _ rfl
    have h3 : DataW.trod enc Try.prog w 0 spare held n 9 (([q0, q1, q2, q3, q4].drop 3).take (Try.prog.cellsOf 9)) = xs[3]? := hf 3 _ rfl
    have h4 : DataW.trod enc Try.prog w 0 spare held n 37 (([q0, q1, q2, q3, q4].drop 4).take (Try.prog.cellsOf 37)) = xs[4]? := hf 4 _ rfl
    rw [c3, List.getElem?_eq_getElem (by omega)] at h0 h1 h2
    rw [c9, List.getElem?_eq_getElem (by omega)] at h3
    rw [c37, List.getElem?_eq_getElem (by omega)] at h4
    obtain ⟨o0, e0, w0⟩ := inv_int Try.underlying3 _ _ _ h0
    obtain ⟨o1, e1, -⟩ := inv_int Try.underlying3 _ _ _ h1
    obtain ⟨o2, e2, w2⟩ := inv_int Try.underlying3 _ _ _ h2
    obtain ⟨s, e3, -⟩ := inv_string Try.underlying9 _ _ _ h3
    obtain ⟨v, l, e4, hi⟩ := nest_ints Try.underlying37 c3 Try.underlying3 h4
    have e4' : q4 = v := by simpa using e4
    subst e0 e1 e2 e3 e4'
    exact ⟨⟨o0, o1, o2, s, l⟩, _, rfl, hi, inR_wf w0, inR_wf w2⟩
set_option maxRecDepth 100000 in
theorem slice_sts {H : Type} {enc : TypeId × Value → H} {w : World} {r : Reach} {b0 : Nat} {spare : Nat → Bool} {held : Bool} {v : Value} {d : DataW H} {p : List MemPlace}
    (hv : Value.okWide Try.prog w r b0 32 v) (h : DataW.Trod enc Try.prog w 0 spare held 32 v d p) : ∃ l : List StD, StsAt w v l :=
  slice_structs 5 StC (by decide) Try.underlying32 (by kernel_rfl) (fun _ _ _ hl hx => trod_st hl hx) hv h
end Go.Proofs.Ytfmdpmcniccioaa
