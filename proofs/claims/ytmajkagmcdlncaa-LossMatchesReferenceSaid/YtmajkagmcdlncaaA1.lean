/- Searches with a function value (slices.IndexFunc, slices.ContainsFunc at the slices of chapter 18); package contact: isIn, areIn. -/
import Derived.Test.YtmajkagmcdlncaaChn
namespace Go.Proofs.Ytmajkagmcdlncaa
open Go.RowKit
open L18 (Pass Slot)

def inB (n lo hi : Int) : Bool := decide (lo ≤ n) && decide (n ≤ hi)
theorem isIn94 (n lo hi : Int) (w : World) : Calls Try.prog 94 #[.int .i64 n, .int .i64 lo, .int .i64 hi] w fun e w' => e = .returned (.bool (inB n lo hi)) ∧ w = w' := by
  by_cases h : lo ≤ n
  · have hd : decide (lo ≤ n) = true := by simpa using h
    go_enter Try.func94, Try.ntmps94
    go_wp2
    go_ret
    exact ⟨by unfold inB; rw [hd]; rfl, rfl⟩
  · have hd : decide (lo ≤ n) = false := by simpa using h
    go_enter Try.func94, Try.ntmps94
    go_wp2
    go_ret
    exact ⟨by unfold inB; rw [hd]; rfl, rfl⟩
theorem in68 (n lo hi : Int) (w : World) : Calls Try.prog 68 #[.int .i64 n, .int .i64 lo, .int .i64 hi] w fun e w' => e = .returned (.bool (inB n lo hi)) ∧ w = w' := by
  by_cases h : lo ≤ n
  · have hd : decide (lo ≤ n) = true := by simpa using h
    go_enter Try.func68, Try.ntmps68
    go_wp2
    go_ret
    exact ⟨by unfold inB; rw [hd]; rfl, rfl⟩
  · have hd : decide (lo ≤ n) = false := by simpa using h
    go_enter Try.func68, Try.ntmps68
    go_wp2
    go_ret
    exact ⟨by unfold inB; rw [hd]; rfl, rfl⟩

/-- The function value f answers q at the elements of l, wherever the heap has grown. -/
def Ans {α : Type} (V : World → Value → α → Prop) (w : World) (f : Value) (l : List α) (q : α → Bool) : Prop :=
  ∃ (k : Nat) (caps : Array Value), f = .func (.func k) #[] caps ∧ (∀ args w, (callFunc k args).run Try.prog w = .ok (.enter k args) w) ∧
    ∀ (j : Nat) (x : α), l[j]? = some x → ∀ W, Below w.heap.size w W → ∀ v, V W v x → Calls Try.prog k (#[v] ++ caps) W fun e w' => e = .returned (.bool (q x)) ∧ Below W.heap.size W w'
theorem Ans.later {α : Type} {V : World → Value → α → Prop} {w w1 : World} {f : Value} {l : List α} {q : α → Bool} (h : Ans V w f l q) (hb : Below w.heap.size w w1) : Ans V w1 f l q := by
  obtain ⟨k, caps, h1, h2, h3⟩ := h
  exact ⟨k, caps, h1, h2, fun j x hj W hW => h3 j x hj W (hb.trans (hW.mono hb.size))⟩
def idxI {α : Type} (q : α → Bool) (l : List α) : Int := match l.findIdx? q with | some i => (i : Int) | none => -1
theorem idxI_hit {α : Type} {q : α → Bool} {l : List α} {k : Nat} {x : α} (hk : l[k]? = some x) (hq : q x = true) (hb : ∀ (j : Nat) (y : α), j < k → l[j]? = some y → q y = false) : idxI q l = k := by
  unfold idxI
  have hlt : k < l.length := by
    refine Classical.byContradiction fun hc => ?_
    rw [List.getElem?_eq_none (by omega)] at hk; cases hk
  have : l.findIdx? q = some k := by
    rw [List.findIdx?_eq_some_iff_getElem]
    refine ⟨hlt, ?_, fun j hj => ?_⟩
    · rw [List.getElem?_eq_getElem hlt] at hk; cases hk; exact hq
    · have := hb j l[j] hj (List.getElem?_eq_getElem (by omega))
      rw [this]; decide
  rw [this]
theorem idxI_none {α : Type} {q : α → Bool} {l : List α} (hb : ∀ (j : Nat) (y : α), l[j]? = some y → q y = false) : idxI q l = -1 := by
  unfold idxI
  have : l.findIdx? q = none := by
    rw [List.findIdx?_eq_none_iff]
    intro x hx
    obtain ⟨j, hj, rfl⟩ := List.getElem_of_mem hx
    exact hb j _ (List.getElem?_eq_getElem hj)
  rw [this]
theorem idxI_any {α : Type} (q : α → Bool) (l : List α) : decide (0 ≤ idxI q l) = l.any q := by
  unfold idxI
  cases h : l.findIdx? q with
  | none =>
    have := List.findIdx?_eq_none_iff.1 h
    simp
    exact this
  | some i =>
    obtain ⟨hlt, hq, -⟩ := List.findIdx?_eq_some_iff_getElem.1 h
    simp
    exact ⟨_, List.getElem_mem hlt, hq⟩
theorem idxI_bd {α : Type} (q : α → Bool) (l : List α) : -1 ≤ idxI q l ∧ idxI q l < l.length ∨ l = [] ∧ idxI q l = -1 := by
  unfold idxI
  cases h : l.findIdx? q with
  | none => cases l with
    | nil => right; exact ⟨rfl, rfl⟩
    | cons x l => left; simp; omega
  | some i =>
    obtain ⟨hlt, -⟩ := List.findIdx?_eq_some_iff_getElem.1 h
    left; simp; omega
/-- Three numbers of package contact: a number and its bounds. -/
structure Bd where
  n : Int
  lo : Int
  hi : Int
def BdC (_ : World) (cs : List Value) (b : Bd) : Prop := cs = [.int .i64 b.n, .int .i64 b.lo, .int .i64 b.hi]
abbrev BdsAt (w : World) (v : Value) (l : List Bd) : Prop := StructsOf 3 BdC w v l
theorem BdsAt.later {w w' : World} {v : Value} {l : List Bd} (h : BdsAt w v l) (hb : Below w.heap.size w w') : BdsAt w' v l := StructsOf.below (R := BdC) (fun _ _ _ _ h _ => h) h hb
theorem BdsAt.get {w : World} {a : Option Addr} {len cap : Nat} {l : List Bd} (h : BdsAt w (.slice a len cap) l) {k : Nat} {x : Bd} (hk : l[k]? = some x) :
    ∃ b off, a = some ⟨b, off, none⟩ ∧ w.cell? ⟨b, off + k * 3, none⟩ = some (.int .i64 x.n) ∧ w.cell? ⟨b, off + k * 3 + 1, none⟩ = some (.int .i64 x.lo) ∧ w.cell? ⟨b, off + k * 3 + 2, none⟩ = some (.int .i64 x.hi) := by
  obtain ⟨b, off, cs, e, -, h2, rfl⟩ := h.at hk
  exact ⟨b, off, e, h2 0 _ rfl, h2 1 _ rfl, h2 2 _ rfl⟩
def BdV (_ : World) (v : Value) (b : Bd) : Prop := v = .agg #[.int .i64 b.n, .int .i64 b.lo, .int .i64 b.hi]
def PassV (_ : World) (v : Value) (p : Pass) : Prop := v = .agg #[.int .i64 p.sat, .int .i64 p.stn, .int .i64 p.sf, .int .i64 p.su, .int .i64 p.cf, .int .i64 p.cu]
def SlotV (_ : World) (v : Value) (s : Slot) : Prop := v = .agg #[.int .i64 s.pass, .int .i64 s.fr, .int .i64 s.to]
/-! ### Searches -/
set_option maxRecDepth 100000 in
theorem index101 (v f : Value) (l : List Bd) (q : Bd → Bool) (w : World) (hv : BdsAt w v l) (hf : Ans BdV w f l q) :
    Calls Try.prog 101 #[v, f] w fun e w' => e = .returned (.int .i64 (idxI q l)) ∧ Below w.heap.size w w' := by
  have HV := Lib.hid hv
  obtain ⟨a, cap, rfl, hle, hcm, -⟩ := hv
  obtain ⟨kf, caps, rfl, hent, hans⟩ := hf
  have HA := Lib.hid hans
  clear hans
  unfold maxLen at hcm
  go_enter Try.func101, Try.ntmps101
  go_wp2
  go_loopw [5, 8] (fun _ u8 wr => ∃ k : Nat, k ≤ l.length ∧ u8 = .int .i64 k ∧ (∀ (j : Nat) (y : Bd), j < k → l[j]? = some y → q y = false) ∧ Below w.heap.size w wr) (fun _ u8 _ => (l.length - intOf u8).toNat)
  case atStart => exact ⟨0, by omega, rfl, fun j y hj => absurd hj (Nat.not_lt_zero _), Below.refl _ _⟩
  case round =>
    obtain ⟨k, hk, rfl, hpre, hBr⟩ := hrel
    have HP := Lib.hid hpre
    clear hpre
    by_cases hkl : k < l.length
    · have hsome := Lib.hid (getD_some ⟨0, 0, 0⟩ hkl)
      obtain ⟨b, off, rfl, c0, c1, c2⟩ := (BdsAt.later HV.out hBr).get hsome.out
      have hc := Lib.hid (HA.out k _ hsome.out wr hBr _ rfl)
      skip
      generalize l.getD k _ = x at c0 c1 c2 hsome hc
      go_wp2_with fail
      refine hc.out.mono ?_
      cases hq : q x with
      | true =>
        rintro e w2 ⟨rfl, hB2⟩
        go_wp2
        go_ret
        exact ⟨by rw [idxI_hit hsome.out hq HP.out]; rfl, hBr.trans (hB2.mono hBr.size)⟩
      | false =>
        have HQ := Lib.hid hq
        clear hq
        rintro e w2 ⟨rfl, hB2⟩
        go_wp2
        go_roundw
        case rel => exact ⟨k + 1, by omega, by go_num, fun j y hj hy => by
          by_cases hjk : j < k
          · exact HP.out j y hjk hy
          · obtain rfl : j = k := by omega
            rw [hsome.out] at hy; cases hy; exact HQ.out, hBr.trans (hB2.mono hBr.size)⟩
        case measure => simp [intOf]; omega
    · go_wp2
      go_ret
      exact ⟨by rw [idxI_none fun j y hj => HP.out j y (by
        refine Classical.byContradiction fun hc => ?_
        rw [List.getElem?_eq_none (by omega)] at hj; cases hj) hj]; rfl, hBr⟩
set_option maxRecDepth 100000 in
theorem contains92 (v f : Value) (l : List Bd) (q : Bd → Bool) (w : World) (hv : BdsAt w v l) (hf : Ans BdV w f l q) :
    Calls Try.prog 92 #[v, f] w fun e w' => e = .returned (.bool (l.any q)) ∧ Below w.heap.size w w' := by
  rw [← idxI_any q l]
  have hb := idxI_bd q l
  have hx := index101 v f l q w hv hf
  generalize idxI q l = i at hb hx
  go_enter Try.func92, Try.ntmps92
  go_wp2_with fail
  refine hx.mono ?_
  rintro e w' ⟨rfl, hB⟩
  go_wp2
  go_ret
  exact ⟨rfl, hB⟩
set_option maxRecDepth 100000 in
theorem index77 (v f : Value) (l : List Pass) (q : Pass → Bool) (w : World) (hv : PassesAt w v l) (hf : Ans PassV w f l q) :
    Calls Try.prog 77 #[v, f] w fun e w' => e = .returned (.int .i64 (idxI q l)) ∧ Below w.heap.size w w' := by
  have HV := Lib.hid hv
  obtain ⟨a, cap, rfl, hle, hcm, -⟩ := hv
  obtain ⟨kf, caps, rfl, hent, hans⟩ := hf
  have HA := Lib.hid hans
  clear hans
  unfold maxLen at hcm
  go_enter Try.func77, Try.ntmps77
  go_wp2
  go_loopw [5, 8] (fun _ u8 wr => ∃ k : Nat, k ≤ l.length ∧ u8 = .int .i64 k ∧ (∀ (j : Nat) (y : Pass), j < k → l[j]? = some y → q y = false) ∧ Below w.heap.size w wr) (fun _ u8 _ => (l.length - intOf u8).toNat)
  case atStart => exact ⟨0, by omega, rfl, fun j y hj => absurd hj (Nat.not_lt_zero _), Below.refl _ _⟩
  case round =>
    obtain ⟨k, hk, rfl, hpre, hBr⟩ := hrel
    have HP := Lib.hid hpre
    clear hpre
    by_cases hkl : k < l.length
    · have hsome := Lib.hid (getD_some L18.noPass hkl)
      obtain ⟨b, off, rfl, c0, c1, c2, c3, c4, c5⟩ := (PassesAt.later HV.out hBr).get hsome.out
      have hc := Lib.hid (HA.out k _ hsome.out wr hBr _ rfl)
      skip
      generalize l.getD k _ = x at c0 c1 c2 c3 c4 c5 hsome hc
      go_wp2_with fail
      refine hc.out.mono ?_
      cases hq : q x with
      | true =>
        rintro e w2 ⟨rfl, hB2⟩
        go_wp2
        go_ret
        exact ⟨by rw [idxI_hit hsome.out hq HP.out]; rfl, hBr.trans (hB2.mono hBr.size)⟩
      | false =>
        have HQ := Lib.hid hq
        clear hq
        rintro e w2 ⟨rfl, hB2⟩
        go_wp2
        go_roundw
        case rel => exact ⟨k + 1, by omega, by go_num, fun j y hj hy => by
          by_cases hjk : j < k
          · exact HP.out j y hjk hy
          · obtain rfl : j = k := by omega
            rw [hsome.out] at hy; cases hy; exact HQ.out, hBr.trans (hB2.mono hBr.size)⟩
        case measure => simp [intOf]; omega
    · go_wp2
      go_ret
      exact ⟨by rw [idxI_none fun j y hj => HP.out j y (by
        refine Classical.byContradiction fun hc => ?_
        rw [List.getElem?_eq_none (by omega)] at hj; cases hj) hj]; rfl, hBr⟩
set_option maxRecDepth 100000 in
theorem contains63 (v f : Value) (l : List Pass) (q : Pass → Bool) (w : World) (hv : PassesAt w v l) (hf : Ans PassV w f l q) :
    Calls Try.prog 63 #[v, f] w fun e w' => e = .returned (.bool (l.any q)) ∧ Below w.heap.size w w' := by
  rw [← idxI_any q l]
  have hb := idxI_bd q l
  have hx := index77 v f l q w hv hf
  generalize idxI q l = i at hb hx
  go_enter Try.func63, Try.ntmps63
  go_wp2_with fail
  refine hx.mono ?_
  rintro e w' ⟨rfl, hB⟩
  go_wp2
  go_ret
  exact ⟨rfl, hB⟩
set_option maxRecDepth 100000 in
theorem index49 (v f : Value) (l : List Slot) (q : Slot → Bool) (w : World) (hv : SlotsAt w v l) (hf : Ans SlotV w f l q) :
    Calls Try.prog 49 #[v, f] w fun e w' => e = .returned (.int .i64 (idxI q l)) ∧ Below w.heap.size w w' := by
  have HV := Lib.hid hv
  obtain ⟨a, cap, rfl, hle, hcm, -⟩ := hv
  obtain ⟨kf, caps, rfl, hent, hans⟩ := hf
  have HA := Lib.hid hans
  clear hans
  unfold maxLen at hcm
  go_enter Try.func49, Try.ntmps49
  go_wp2
  go_loopw [5, 8] (fun _ u8 wr => ∃ k : Nat, k ≤ l.length ∧ u8 = .int .i64 k ∧ (∀ (j : Nat) (y : Slot), j < k → l[j]? = some y → q y = false) ∧ Below w.heap.size w wr) (fun _ u8 _ => (l.length - intOf u8).toNat)
  case atStart => exact ⟨0, by omega, rfl, fun j y hj => absurd hj (Nat.not_lt_zero _), Below.refl _ _⟩
  case round =>
    obtain ⟨k, hk, rfl, hpre, hBr⟩ := hrel
    have HP := Lib.hid hpre
    clear hpre
    by_cases hkl : k < l.length
    · have hsome := Lib.hid (getD_some L18.noSlot hkl)
      obtain ⟨b, off, rfl, c0, c1, c2⟩ := (SlotsAt.later HV.out hBr).get hsome.out
      have hc := Lib.hid (HA.out k _ hsome.out wr hBr _ rfl)
      skip
      generalize l.getD k _ = x at c0 c1 c2 hsome hc
      go_wp2_with fail
      refine hc.out.mono ?_
      cases hq : q x with
      | true =>
        rintro e w2 ⟨rfl, hB2⟩
        go_wp2
        go_ret
        exact ⟨by rw [idxI_hit hsome.out hq HP.out]; rfl, hBr.trans (hB2.mono hBr.size)⟩
      | false =>
        have HQ := Lib.hid hq
        clear hq
        rintro e w2 ⟨rfl, hB2⟩
        go_wp2
        go_roundw
        case rel => exact ⟨k + 1, by omega, by go_num, fun j y hj hy => by
          by_cases hjk : j < k
          · exact HP.out j y hjk hy
          · obtain rfl : j = k := by omega
            rw [hsome.out] at hy; cases hy; exact HQ.out, hBr.trans (hB2.mono hBr.size)⟩
        case measure => simp [intOf]; omega
    · go_wp2
      go_ret
      exact ⟨by rw [idxI_none fun j y hj => HP.out j y (by
        refine Classical.byContradiction fun hc => ?_
        rw [List.getElem?_eq_none (by omega)] at hj; cases hj) hj]; rfl, hBr⟩
set_option maxRecDepth 100000 in
theorem index71 (v f : Value) (l : List OptD) (q : OptD → Bool) (w : World) (hv : OptsAt w v l) (hf : Ans OptV w f l q) :
    Calls Try.prog 71 #[v, f] w fun e w' => e = .returned (.int .i64 (idxI q l)) ∧ Below w.heap.size w w' := by
  have HV := Lib.hid hv
  obtain ⟨a, cap, rfl, hle, hcm, -⟩ := hv
  obtain ⟨kf, caps, rfl, hent, hans⟩ := hf
  have HA := Lib.hid hans
  clear hans
  unfold maxLen at hcm
  go_enter Try.func71, Try.ntmps71
  go_wp2
  go_loopw [5, 8] (fun _ u8 wr => ∃ k : Nat, k ≤ l.length ∧ u8 = .int .i64 k ∧ (∀ (j : Nat) (y : OptD), j < k → l[j]? = some y → q y = false) ∧ Below w.heap.size w wr) (fun _ u8 _ => (l.length - intOf u8).toNat)
  case atStart => exact ⟨0, by omega, rfl, fun j y hj => absurd hj (Nat.not_lt_zero _), Below.refl _ _⟩
  case round =>
    obtain ⟨k, hk, rfl, hpre, hBr⟩ := hrel
    have HP := Lib.hid hpre
    clear hpre
    by_cases hkl : k < l.length
    · have hsome := Lib.hid (getD_some ⟨⟨0, 0, 0, 0, 0, 0, 0, 0⟩, []⟩ hkl)
      obtain ⟨b, off, vs, rfl, c0, c1, c2, c3, c4, c5, c6, c7, c8, hvs⟩ := (OptsAt.later HV.out hBr).get hsome.out
      have hc := Lib.hid (HA.out k _ hsome.out wr hBr _ ⟨vs, rfl, hvs⟩)
      clear hvs
      generalize l.getD k _ = x at c0 c1 c2 c3 c4 c5 c6 c7 c8 hsome hc
      go_wp2_with fail
      refine hc.out.mono ?_
      cases hq : q x with
      | true =>
        rintro e w2 ⟨rfl, hB2⟩
        go_wp2
        go_ret
        exact ⟨by rw [idxI_hit hsome.out hq HP.out]; rfl, hBr.trans (hB2.mono hBr.size)⟩
      | false =>
        have HQ := Lib.hid hq
        clear hq
        rintro e w2 ⟨rfl, hB2⟩
        go_wp2
        go_roundw
        case rel => exact ⟨k + 1, by omega, by go_num, fun j y hj hy => by
          by_cases hjk : j < k
          · exact HP.out j y hjk hy
          · obtain rfl : j = k := by omega
            rw [hsome.out] at hy; cases hy; exact HQ.out, hBr.trans (hB2.mono hBr.size)⟩
        case measure => simp [intOf]; omega
    · go_wp2
      go_ret
      exact ⟨by rw [idxI_none fun j y hj => HP.out j y (by
        refine Classical.byContradiction fun hc => ?_
        rw [List.getElem?_eq_none (by omega)] at hj; cases hj) hj]; rfl, hBr⟩
set_option maxRecDepth 100000 in
theorem contains54 (v f : Value) (l : List OptD) (q : OptD → Bool) (w : World) (hv : OptsAt w v l) (hf : Ans OptV w f l q) :
    Calls Try.prog 54 #[v, f] w fun e w' => e = .returned (.bool (l.any q)) ∧ Below w.heap.size w w' := by
  rw [← idxI_any q l]
  have hb := idxI_bd q l
  have hx := index71 v f l q w hv hf
  generalize idxI q l = i at hb hx
  go_enter Try.func54, Try.ntmps54
  go_wp2_with fail
  refine hx.mono ?_
  rintro e w' ⟨rfl, hB⟩
  go_wp2
  go_ret
  exact ⟨rfl, hB⟩
end Go.Proofs.Ytmajkagmcdlncaa
