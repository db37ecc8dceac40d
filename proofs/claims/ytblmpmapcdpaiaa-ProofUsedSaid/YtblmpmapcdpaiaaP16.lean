/- slices.Clone, slices.BinarySearch on integers. -/
import Derived.Test.YtblmpmapcdpaiaaRowApp
import Derived.ArgAppend
namespace Go.Proofs.Ytblmpmapcdpaiaa
open Go.RowKit Lib

theorem SliceOf.cells {α : Type} {f : α → Value} {w : World} {p : Addr} {len cap : Nat} {l : List α} (h : SliceOf f w (.slice (some p) len cap) l) : ∀ j u, (l.map f)[j]? = some u → w.cell? (p.add j) = some u := by
  intro j u hj
  obtain ⟨a', c, e, h1, h2, h3⟩ := h
  cases e
  rw [List.getElem?_map] at hj
  cases hy : l[j]? with
  | none => rw [hy] at hj; cases hj
  | some y =>
    rw [hy] at hj
    have hl : 0 < l.length := by
      refine Classical.byContradiction fun hc => ?_
      rw [List.getElem?_eq_none (by omega)] at hy; cases hy
    obtain ⟨b, off, e, h4⟩ := h3 hl
    cases e
    rw [addr_add]
    cases hj
    exact h4 j y hy
theorem E24w : Try.prog.underlying 24 = some (.slice 3) := E24.und
theorem ownsRow_base {w : World} {B B' : Nat} {e : TypeId} {k : Nat} {v : Value} {n : Nat} {xs : List Value} (h : w.ownsRow B e k v n xs) (hB : B' ≤ B) : w.ownsRow B' e k v n xs :=
  ⟨h.1, h.2.imp_right fun ⟨g, cap, cur, h1, h2, h3⟩ => ⟨g, cap, cur, h1, Nat.le_trans hB h2, h3⟩⟩
set_option maxRecDepth 100000 in
set_option maxHeartbeats 1000000 in
theorem clone_own (v : Value) (l : List Int) (w : World) (hv : IntsAt w v l) (hl : l.length ≤ 1000000000) :
    Calls Try.prog 78 #[v] w fun e w' => ∃ v', e = .returned v' ∧ w'.ownsRow w.heap.size 3 1 v' l.length (l.map (Value.int .i64)) ∧ Below w.heap.size w w' := by
  have HV := Lib.hid hv
  obtain ⟨a, cap, rfl, h1, h2⟩ := hv.len
  clear hv
  cases a with
  | none =>
    have hnil : l = [] := by
      obtain ⟨a', c, e, g1, g2, g3⟩ := HV.out
      cases e
      refine List.eq_nil_of_length_eq_zero (Nat.eq_zero_of_not_pos fun hl => ?_)
      obtain ⟨b, off, e, -⟩ := g3 hl
      cases e
    subst hnil
    have he : ∀ w : World, (binOp .eql 24 (.slice none 0 cap) (.slice none 0 0)).run Try.prog w = .ok (.bool true) w := fun _ => rfl
    go_enter Try.func78, Try.ntmps78
    go_wp2
    go_ret
    exact ⟨_, rfl, World.ownsRow_nil _ _ _ _, Below.refl _ _⟩
  | some ad =>
    obtain ⟨i, hi, hz0, hz1, hz2⟩ := info_parts E24.info
    have he : ∀ w : World, (binOp .eql 24 (.slice (some ad) l.length cap) (.slice none 0 0)).run Try.prog w = .ok (.bool false) w := fun _ => rfl
    go_enter Try.func78, Try.ntmps78
    have hB : Below w.heap.size w (w.alloc (.cells #[] 3)) := (Below.refl _ _).alloc (Nat.le_refl _) _
    go_wp2_with (at_builtin; refine wpList_append_arg _ rfl _ _ 24 rfl 3 i _ 1 8 E24.und hi hz0 hz1 hz2 E24.zs E24.pos w.heap.size 0 0 0 [] rfl rfl (fun j u h => by simp at h) ad l.length cap (l.map (Value.int .i64)) rfl (by simp) (HV.out.below hB).cells (fun u hu => by simp at hu; obtain ⟨y, -, rfl⟩ := hu; rfl) ?c1 (by unfold maxLen; omega) (by omega) ?c2 ?c3)
    case c1 => intro h j hj; simp at hj; simp at h; subst h; simp at hj
    case c2 =>
      intro h
      subst h
      go_wp2
      go_ret
      exact ⟨_, rfl, ⟨rfl, .inr ⟨w.heap.size, 0, #[], rfl, Nat.le_refl _, Blk.new w #[] 3, by simp, by decide, rfl, rfl⟩⟩, hB⟩
    case c3 =>
      intro _ v' w' hown hgrow
      go_wp2
      go_ret
      refine ⟨_, rfl, by simpa using ownsRow_base (B' := w.heap.size) hown (by simp), hB.trans ((below_grown hgrow).mono hB.size)⟩

theorem clone_any (v : Value) (l : List Int) (w : World) (hv : IntsAt w v l) (hl : l.length ≤ 1000000000) :
    Calls Try.prog 78 #[v] w fun e w' => ∃ v', e = .returned v' ∧ IntsAt w' v' l ∧ Below w.heap.size w w' := by
  refine (clone_own v l w hv hl).mono ?_
  rintro e w' ⟨v', h1, h2, h3⟩
  exact ⟨v', h1, owned_slice h2, h3⟩

theorem nan110 (x : Int) (w : World) : Calls Try.prog 110 #[.int .i64 x] w fun e w' => e = .returned (.bool false) ∧ w = w' := by
  go_enter Try.func110, Try.ntmps110
  go_wp2
  go_ret
  exact ⟨by simp, rfl⟩
theorem nan100 (x : Int) (w : World) : Calls Try.prog 100 #[.int .i64 x] w fun e w' => e = .returned (.bool false) ∧ w = w' := by
  go_enter Try.func100, Try.ntmps100
  go_wp2
  go_ret
  exact ⟨by simp, rfl⟩
theorem less99 (x y : Int) (w : World) : Calls Try.prog 99 #[.int .i64 x, .int .i64 y] w fun e w' => e = .returned (.bool (decide (x < y))) ∧ w = w' := by
  go_enter Try.func99, Try.ntmps99
  go_wp2_with fail
  refine (nan110 _ _).mono ?_
  rintro e w' ⟨rfl, rfl⟩
  go_wp2
  go_ret
  exact ⟨rfl, rfl⟩

def SortedI (l : List Int) : Prop := ∀ a b, a < b → b < l.length → l.getD a 0 < l.getD b 0
theorem memI {l : List Int} {x : Int} : x ∈ l ↔ ∃ k, k < l.length ∧ l.getD k 0 = x := by
  rw [List.mem_iff_getElem?]
  refine ⟨fun ⟨k, hk⟩ => ?_, fun ⟨k, hk, e⟩ => ⟨k, by rw [getD_some 0 hk, e]⟩⟩
  have hl : k < l.length := by
    refine Classical.byContradiction fun hc => ?_
    rw [List.getElem?_eq_none (by omega)] at hk; cases hk
  refine ⟨k, hl, ?_⟩
  have := getD_some 0 hl
  rw [hk] at this
  exact (Option.some.inj this).symm
set_option maxRecDepth 100000 in
set_option maxHeartbeats 1000000 in
theorem search_any (v : Value) (l : List Int) (x : Int) (w : World) (hv : IntsAt w v l) (hs : SortedI l) (hl : l.length ≤ 1000000000) :
    Calls Try.prog 79 #[v, .int .i64 x] w fun e w' => (∃ k : Int, e = .returned (.tuple #[.int .i64 k, .bool (decide (x ∈ l))])) ∧ w = w' := by
  have HV := Lib.hid hv
  have HS := Lib.hid hs
  obtain ⟨a, cap, rfl, h1, h2⟩ := hv.len
  unfold maxLen at h2
  clear hv hs
  obtain ⟨mb, hmb⟩ : ∃ b, Hid (b = decide (x ∈ l)) := ⟨_, Lib.hid rfl⟩
  rw [← hmb.out]
  go_enter Try.func79, Try.ntmps79
  go_wp2
  go_loop [7, 8] (fun u7 u8 => ∃ i j : Nat, i ≤ j ∧ j ≤ l.length ∧ u7 = .int .i64 i ∧ u8 = .int .i64 j ∧ Hid ((∀ q, q < i → l.getD q 0 < x) ∧ (∀ q, j ≤ q → q < l.length → x ≤ l.getD q 0)))
    (fun u7 u8 => (intOf u8 - intOf u7).toNat)
  case atStart => exact ⟨0, l.length, by omega, by omega, rfl, rfl, Lib.hid ⟨fun q h => by omega, fun q h1 h2 => by omega⟩⟩
  case round =>
    obtain ⟨i, j, hij, hj, rfl, rfl, hq⟩ := hrel
    by_cases hlt : i < j
    · have hlen : 0 < l.length := by omega
      have hmid : (i + j) / 2 < l.length := by omega
      obtain ⟨b, off, rfl, hcell⟩ := HV.out.get (getD_some 0 hmid)
      generalize hm : (i + j) / 2 = m at hmid hcell
      have hmi : i ≤ m ∧ m < j := by omega
      have hm2 : ((i : Int) + j) / 2 = m := by omega
      have hwr : IntKind.i64.wrap ((i : Int) + j) = (i : Int) + j := wraps_i64 _ (by omega) (by omega)
      have hmo := Lib.hid (fun q (h : q < m) => HS.out q m h hmid)
      have hmo2 := Lib.hid (fun q (h : m < q) (h2 : q < l.length) => HS.out m q h h2)
      obtain ⟨y, hy0⟩ : ∃ y, l.getD m 0 = y := ⟨_, rfl⟩
      rw [hy0] at hcell hmo hmo2
      have hmy := Lib.hid hy0
      clear hy0
      by_cases hy : y < x
      · have hy' : decide (y < x) = true := decide_eq_true hy
        go_wp2_with fail
        refine (less99 _ _ _).mono ?_
        rintro e w' ⟨rfl, rfl⟩
        go_wp2
        refine ⟨⟨m + 1, j, by omega, by omega, by go_num, rfl, Lib.hid ⟨fun q h => ?_, hq.out.2⟩⟩, by simp [intOf]; omega⟩
        rcases Nat.lt_or_ge q m with h1 | h1
        · have := hmo.out q h1; omega
        · obtain rfl : q = m := by omega
          rw [hmy.out]; exact hy
      · have hy' : decide (y < x) = false := decide_eq_false hy
        go_wp2_with fail
        refine (less99 _ _ _).mono ?_
        rintro e w' ⟨rfl, rfl⟩
        go_wp2
        refine ⟨⟨i, m, by omega, by omega, rfl, by go_num, Lib.hid ⟨hq.out.1, fun q h h2 => ?_⟩⟩, by simp [intOf]; omega⟩
        rcases Nat.lt_or_ge m q with h1 | h1
        · have := hmo2.out q h1 h2; omega
        · obtain rfl : q = m := by omega
          rw [hmy.out]; omega
    · obtain rfl : i = j := by omega
      by_cases hil : i < l.length
      · obtain ⟨b, off, rfl, hcell⟩ := HV.out.get (getD_some 0 hil)
        have hmem : x ∈ l ↔ l.getD i 0 = x := by
          refine ⟨fun h => ?_, fun h => memI.2 ⟨i, hil, h⟩⟩
          obtain ⟨k, hk, e⟩ := memI.1 h
          rcases Nat.lt_trichotomy k i with h1 | h1 | h1
          · have := hq.out.1 k h1; omega
          · rw [← h1]; exact e
          · have a1 := HS.out i k h1 hk
            have a2 := hq.out.2 i (Nat.le_refl _) hil
            omega
        have hmb2 : mb = decide (l.getD i 0 = x) := hmb.out.trans (decide_eq_decide.2 hmem)
        clear hmem
        generalize l.getD i 0 = y at hcell hmb2
        by_cases hy : y = x
        · subst hy
          have hmb2 : mb = true := hmb2.trans (decide_eq_true rfl)
          have HM := Lib.hid hmb2
          clear hmb2
          go_wp2_with fail
          go_ret2
          exact ⟨⟨i, by first | rfl | (rw [HM.out]; rfl)⟩, rfl⟩
        · have hy' : decide (y = x) = false := decide_eq_false hy
          rw [hy'] at hmb2
          have hy2 : (y == x) = false := beq_eq_false_iff_ne.2 hy
          have HM := Lib.hid hmb2
          clear hmb2
          go_wp2_with fail
          refine (nan100 _ _).mono ?_
          rintro e w' ⟨rfl, rfl⟩
          go_wp2
          go_ret2
          exact ⟨⟨i, by first | rfl | (rw [HM.out]; rfl)⟩, rfl⟩
      · have hmem : decide (x ∈ l) = false := by
          refine decide_eq_false fun h => ?_
          obtain ⟨k, hk, e⟩ := memI.1 h
          have := hq.out.1 k (by omega)
          omega
        have HM := Lib.hid (hmb.out.trans hmem)
        clear hmem
        go_wp2_with fail
        go_ret2
        exact ⟨⟨i, by first | rfl | (rw [HM.out]; rfl)⟩, rfl⟩
end Go.Proofs.Ytblmpmapcdpaiaa
