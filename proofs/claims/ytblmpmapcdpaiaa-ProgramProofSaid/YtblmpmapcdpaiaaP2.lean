/- Searches with a function value: slices.IndexFunc, slices.ContainsFunc, program.all, at []int and []Row, for every function value that answers a predicate. -/
import Derived.Test.YtblmpmapcdpaiaaP1
namespace Go.Proofs.Ytblmpmapcdpaiaa
open Go.RowKit

/-- The function value f answers q at the integers of l, wherever the heap has grown. -/
def AnsI (w : World) (f : Value) (l : List Int) (q : Int → Bool) : Prop :=
  ∃ (k : Nat) (caps : Array Value), f = .func (.func k) #[] caps ∧ (∀ args w, (callFunc k args).run Try.prog w = .ok (.enter k args) w) ∧
    ∀ (j : Nat) (x : Int), l[j]? = some x → ∀ W, Below w.heap.size w W → Calls Try.prog k (#[.int .i64 x] ++ caps) W fun e w' => e = .returned (.bool (q x)) ∧ Below W.heap.size W w'
theorem AnsI.later {w w1 : World} {f : Value} {l : List Int} {q : Int → Bool} (h : AnsI w f l q) (hb : Below w.heap.size w w1) : AnsI w1 f l q := by
  obtain ⟨k, caps, h1, h2, h3⟩ := h
  exact ⟨k, caps, h1, h2, fun j x hj W hW => h3 j x hj W (hb.trans (hW.mono hb.size))⟩
/-- The like for rows. -/
def AnsR (w : World) (f : Value) (l : List RowD) (q : RowD → Bool) : Prop :=
  ∃ (k : Nat) (caps : Array Value), f = .func (.func k) #[] caps ∧ (∀ args w, (callFunc k args).run Try.prog w = .ok (.enter k args) w) ∧
    ∀ (j : Nat) (r : RowD), l[j]? = some r → ∀ W, Below w.heap.size w W → ∀ v, RowV W v r → Calls Try.prog k (#[v] ++ caps) W fun e w' => e = .returned (.bool (q r)) ∧ Below W.heap.size W w'
theorem AnsR.later {w w1 : World} {f : Value} {l : List RowD} {q : RowD → Bool} (h : AnsR w f l q) (hb : Below w.heap.size w w1) : AnsR w1 f l q := by
  obtain ⟨k, caps, h1, h2, h3⟩ := h
  exact ⟨k, caps, h1, h2, fun j x hj W hW => h3 j x hj W (hb.trans (hW.mono hb.size))⟩

def idxI {α : Type} (q : α → Bool) (l : List α) : Int := match l.findIdx? q with | some i => (i : Int) | none => -1
theorem idxI_hit {α : Type} {q : α → Bool} {l : List α} {k : Nat} {x : α} (hk : l[k]? = some x) (hq : q x = true) (hb : ∀ (j : Nat) (y : α), j < k → l[j]? = some y → q y = false) : idxI q l = k := by
  unfold idxI
  have hlt : k < l.length := by
    refine Classical.byContradiction fun hc => ?_
    rw [List.getElem?_eq_none (by omega)] at hk; cases hk
  have : l.findIdx? q = some k := by
    rw [List.findIdx?_eq_some_iff_getElem]
    refine ⟨hlt, ?_, fun j hj => ?_⟩
    · rw [List.getElem?_eq_getElem hlt] at hk; cases hk; exact hq
    · have := hb j l[j] hj (List.getElem?_eq_getElem (by omega))
      rw [this]; decide
  rw [this]
theorem idxI_none {α : Type} {q : α → Bool} {l : List α} (hb : ∀ (j : Nat) (y : α), l[j]? = some y → q y = false) : idxI q l = -1 := by
  unfold idxI
  have : l.findIdx? q = none := by
    rw [List.findIdx?_eq_none_iff]
    intro x hx
    obtain ⟨j, hj, rfl⟩ := List.getElem_of_mem hx
    exact hb j _ (List.getElem?_eq_getElem hj)
  rw [this]
theorem idxI_any {α : Type} (q : α → Bool) (l : List α) : decide (0 ≤ idxI q l) = l.any q := by
  unfold idxI
  cases h : l.findIdx? q with
  | none =>
    have := List.findIdx?_eq_none_iff.1 h
    simp
    exact this
  | some i =>
    obtain ⟨hlt, hq, -⟩ := List.findIdx?_eq_some_iff_getElem.1 h
    simp
    exact ⟨_, List.getElem_mem hlt, hq⟩
theorem idxI_bd {α : Type} (q : α → Bool) (l : List α) : -1 ≤ idxI q l ∧ idxI q l < l.length ∨ l = [] ∧ idxI q l = -1 := by
  unfold idxI
  cases h : l.findIdx? q with
  | none => cases l with
    | nil => right; exact ⟨rfl, rfl⟩
    | cons x l => left; simp; omega
  | some i =>
    obtain ⟨hlt, -⟩ := List.findIdx?_eq_some_iff_getElem.1 h
    left; simp; omega

set_option maxRecDepth 100000 in
theorem indexI (v f : Value) (l : List Int) (q : Int → Bool) (w : World) (hv : IntsAt w v l) (hf : AnsI w f l q) :
    Calls Try.prog 116 #[v, f] w fun e w' => e = .returned (.int .i64 (idxI q l)) ∧ Below w.heap.size w w' := by
  have HV := Lib.hid hv
  obtain ⟨a, cap, rfl, hle, hcm, -⟩ := hv
  obtain ⟨kf, caps, rfl, hent, hans⟩ := hf
  have HA := Lib.hid hans
  clear hans
  unfold maxLen at hcm
  go_enter Try.func116, Try.ntmps116
  go_wp2
  go_loopw [5, 8] (fun _ u8 wr => ∃ k : Nat, k ≤ l.length ∧ u8 = .int .i64 k ∧ (∀ (j : Nat) (y : Int), j < k → l[j]? = some y → q y = false) ∧ Below w.heap.size w wr) (fun _ u8 _ => (l.length - intOf u8).toNat)
  case atStart => exact ⟨0, by omega, rfl, fun j y hj => absurd hj (Nat.not_lt_zero _), Below.refl _ _⟩
  case round =>
    obtain ⟨k, hk, rfl, hpre, hBr⟩ := hrel
    have HP := Lib.hid hpre
    clear hpre
    by_cases hkl : k < l.length
    · have hsome := Lib.hid (getD_some 0 hkl)
      obtain ⟨b, off, rfl, hcell⟩ := HV.out.get hsome.out
      have hcell' := (hBr.cell (p := ⟨b, off + k, none⟩) (World.block_lt_of_cell? _ _ hcell)).trans hcell
      clear hcell
      have hc := Lib.hid (HA.out k _ hsome.out wr hBr)
      generalize l.getD k 0 = x at hcell' hsome hc
      go_wp2_with fail
      refine hc.out.mono ?_
      cases hq : q x with
      | true =>
        rintro e w2 ⟨rfl, hB2⟩
        go_wp2
        go_ret
        exact ⟨by rw [idxI_hit hsome.out hq HP.out]; rfl, hBr.trans (hB2.mono hBr.size)⟩
      | false =>
        have HQ := Lib.hid hq
        clear hq
        rintro e w2 ⟨rfl, hB2⟩
        go_wp2
        go_roundw
        case rel => exact ⟨k + 1, by omega, by go_num, fun j y hj hy => by
          by_cases hjk : j < k
          · exact HP.out j y hjk hy
          · obtain rfl : j = k := by omega
            rw [hsome.out] at hy; cases hy; exact HQ.out, hBr.trans (hB2.mono hBr.size)⟩
        case measure => simp [intOf]; omega
    · go_wp2
      go_ret
      exact ⟨by rw [idxI_none fun j y hj => HP.out j y (by
        refine Classical.byContradiction fun hc => ?_
        rw [List.getElem?_eq_none (by omega)] at hj; cases hj) hj]; rfl, hBr⟩
end Go.Proofs.Ytblmpmapcdpaiaa
