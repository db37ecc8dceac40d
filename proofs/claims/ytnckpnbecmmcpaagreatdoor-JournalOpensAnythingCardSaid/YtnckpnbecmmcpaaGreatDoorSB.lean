/- package digest: Sum. -/
import Derived.Test.YtnckpnbecmmcpaaGreatDoorSA
import Derived.ArgAppend
import Derived.Laws.IdiomStrings
namespace Go.Proofs.YtnckpnbecmmcpaaGreatDoor
open Go.RowKit
/-- A row of bytes that may be written, wherever it came from. -/
def OwnX (W : World) (B : Nat) (v : Value) (bs : List Int) : Prop :=
  ∃ g cap, v = .slice (some ⟨g, 0, none⟩) bs.length cap ∧ B ≤ g ∧ bs.length ≤ cap ∧ cap ≤ maxLen ∧ (∀ j x, bs[j]? = some x → W.cell? ⟨g, j, none⟩ = some (.int .u8 x)) ∧ (∀ j, j < cap → (W.cell? ⟨g, j, none⟩).isSome = true ∧ W.frozen? ⟨g, j, none⟩ = false)
theorem cellSome_lt {w : World} {p : Addr} (h : (w.cell? p).isSome = true) : p.block < w.heap.size := by
  obtain ⟨v, hv⟩ := Option.isSome_iff_exists.1 h
  exact World.block_lt_of_cell? _ _ hv
theorem OwnX.later {W W' : World} {B : Nat} {v : Value} {bs : List Int} (h : OwnX W B v bs) (hb : Below W.heap.size W W') : OwnX W' B v bs := by
  obtain ⟨g, cap, h1, h2, h3, h4, h5, h6⟩ := h
  refine ⟨g, cap, h1, h2, h3, h4, fun j x hj => (hb.cell (p := ⟨g, j, none⟩) (World.block_lt_of_cell? _ _ (h5 j x hj))).trans (h5 j x hj), fun j hj => ?_⟩
  have hl := cellSome_lt (h6 j hj).1
  exact ⟨by rw [hb.cell (p := ⟨g, j, none⟩) hl]; exact (h6 j hj).1, by rw [hb.frozen (p := ⟨g, j, none⟩) hl]; exact (h6 j hj).2⟩
theorem OwnX.bytes {W : World} {B : Nat} {v : Value} {bs : List Int} {l : List UInt8} (h : OwnX W B v bs) (hl : l.map (fun u : UInt8 => (u.toNat : Int)) = bs) : BytesAt W v l := by
  have hll : l.length = bs.length := by rw [← hl, List.length_map]
  obtain ⟨g, cap, h1, h2, h3, h4, h5, h6⟩ := h
  refine ⟨_, cap, by rw [h1, hll], by omega, h4, fun _ => ⟨g, 0, rfl, fun j y hj => ?_⟩⟩
  rw [Nat.zero_add]
  exact h5 j _ (by rw [← hl, List.getElem?_map, hj]; rfl)
theorem OwnX.of_own {W : World} {B : Nat} {v : Value} {n : Nat} {bs : List Int} (h : W.ownsRow B 5 1 v n (bs.map (Value.int .u8))) (hn : 0 < n) : OwnX W B v bs := by
  have hl : bs.length = n := by have := h.1; rw [List.length_map] at this; omega
  rcases h.2 with ⟨-, h0⟩ | ⟨g, cap, cur, rfl, hB, hg, h1, h2, h3, -⟩
  · omega
  · have hb : Blk W g cur 5 := hg
    refine ⟨g, cap, by rw [hl], hB, by omega, h2, fun j x hj => ?_, fun j hj => ⟨by rw [hb.cell, Array.getElem?_eq_getElem (by omega)]; rfl, hb.frozen j⟩⟩
    have q := h.cells (g := g) rfl j (.int .u8 x) (by rw [List.getElem?_map, hj]; rfl)
    rw [add_zero_off] at q
    exact q
theorem wpList_pushX {P : Program} {ops : Array Oper} {rest : List Oper} {o : Oper} {a : Act} {Q : Exit → Act → World → Prop} {t : TypeId} {w0 : World} {x : Int}
    (E : ElemOK P t 5 (.int .u8 0) 1 1) (hgd : o.guard = none) (s y : Operand)
    (ho : o.op = .call { callee := .builtin .append, args := #[s, y], argTypes := #[t, t] })
    (B : Nat) {v : Value} {bs : List Int} (hown : OwnX w0 B v bs) (hs : a.eval s = v) (hx : a.eval y = .slice (some ⟨w0.heap.size, 0, none⟩) 1 1)
    (h63 : bs.length + 1 ≤ 1000000) (hB : B ≤ w0.heap.size)
    (h : ∀ v' w', OwnX w' B v' (bs ++ [x]) → Below B w0 w' → wpList P ops Q rest (a.put o.dst v') w') :
    wpList P ops Q (o :: rest) a (w0.alloc (.cells #[.int .u8 x] 5)) := by
  obtain ⟨i, hi, hz0, hz1, hz2⟩ := info_parts E.info
  have hb1 : Below w0.heap.size w0 (w0.alloc (.cells #[.int .u8 x] 5)) := (Below.refl _ _).alloc (Nat.le_refl _) _
  have hown1 := hown.later hb1
  obtain ⟨g, cap, rfl, h2, h3, h4, h5, h6⟩ := hown1
  refine wpList_append_arg _ hgd s y t ho 5 i _ 1 1 E.und hi hz0 hz1 hz2 E.zs E.pos g 0 bs.length cap (bs.map (Value.int .u8)) hs (by simp) (fun j u hj => ?_) ⟨w0.heap.size, 0, none⟩ 1 1 [.int .u8 x] hx rfl (fun j u hj => ?_) (fun u hu => ?_) (fun hr j hj => ?_) (by unfold maxLen; omega) (by omega) (fun hr => ?_) (fun hr v' w' ho' hg' => ?_)
  · rw [List.getElem?_map] at hj
    cases hq : bs[j]? with
    | none => rw [hq] at hj; cases hj
    | some z => rw [hq] at hj; cases hj; rw [Nat.zero_add]; exact h5 j z hq
  · rw [add_zero_off, World.cell?_alloc_at _ _ _ _ rfl]; simpa using hj
  · simp at hu; rw [hu]; rfl
  · have : j = 0 := by simpa using hj
    subst this
    simpa using h6 bs.length (by omega)
  · have hlt : bs.length < cap := by omega
    have hgle : g ≤ w0.heap.size := by
      have := cellSome_lt (h6 _ hlt).1
      simp at this; omega
    simp only [Nat.zero_add, Nat.mul_one]
    have hin := World.cell?_setCells_in g [.int .u8 x] bs.length (w0.alloc (.cells #[.int .u8 x] 5)) (fun j hj => by
      have : j = 0 := by simpa using hj
      subst this; exact (h6 _ hlt).1) 0 (by simp)
    refine h _ _ ⟨g, cap, by simp, h2, by simp; omega, h4, fun j z hj => ?_, fun j hj => ⟨?_, ?_⟩⟩ ((below_setCells (b := g) [.int .u8 x] bs.length (hb1.mono hgle)).mono h2)
    · by_cases hjl : j < bs.length
      · rw [List.getElem?_append_left hjl] at hj
        rw [World.cell?_setCells_out g _ _ _ _ (fun _ _ => .inl hjl)]
        exact h5 j z hj
      · have hje : j = bs.length := by
          rcases Nat.lt_or_ge bs.length j with hh | hh
          · rw [List.getElem?_eq_none (by simp; omega)] at hj; cases hj
          · omega
        subst hje
        rw [List.getElem?_append_right (Nat.le_refl _), Nat.sub_self] at hj
        cases hj
        simpa using hin
    · by_cases hje : j = bs.length
      · subst hje
        have := hin
        simp only [Nat.add_zero] at this
        rw [this]; rfl
      · rw [World.cell?_setCells_out g _ _ _ _ (fun _ _ => by simp; omega)]
        exact (h6 j hj).1
    · rw [World.frozen?_setCells]; exact (h6 j hj).2
  · have ho2 : w'.ownsRow w0.heap.size 5 1 v' (bs.length + 1) ((bs ++ [x]).map (Value.int .u8)) := by
      rw [List.map_append]
      exact ownsRow_base ho' (by simp)
    have ho3 := OwnX.of_own ho2 (by omega)
    obtain ⟨g', cap', k1, k2, k3⟩ := ho3
    exact h _ _ ⟨g', cap', k1, by omega, k3⟩ ((hb1.mono hB).trans ⟨hg'.os, hg'.tape, hg'.output, hg'.size, fun k hk => hg'.block k (by simp; omega) (by simp)⟩)
end Go.Proofs.YtnckpnbecmmcpaaGreatDoor
