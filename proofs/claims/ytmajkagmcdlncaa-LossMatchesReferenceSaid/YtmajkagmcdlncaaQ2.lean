/- Laws of chapter 18: lost sets as bits. -/
import Derived.Test.YtmajkagmcdlncaaQ1
namespace Go.Proofs.Ytmajkagmcdlncaa
open Go.RowKit Go.Shelf
open L18 (Pass Slot noPass noSlot validB pickV ownV mostV sentV allowB limB lateL lastV)

theorem IntsAt_below {W W' : World} {v : Value} {l : List Int} (h : IntsAt W v l) (hb : Below W.heap.size W W') : IntsAt W' v l := SliceOf.below h hb
/-- The members of a list at the places that the bits of s tell. -/
def subL (x : List Int) (s : Int) : Nat → List Int
  | 0 => []
  | i + 1 => if bitI s i = true then subL x s i ++ [x.getD i 0] else subL x s i
theorem subL_sub (x : List Int) (s : Int) : ∀ i, i ≤ x.length → (subL x s i).Sublist (x.take i)
  | 0, _ => List.nil_sublist _
  | i + 1, h => by
    have ih := subL_sub x s i (by omega)
    have e : x.take (i + 1) = x.take i ++ [x.getD i 0] := by rw [List.take_add_one, getD_some 0 (show i < x.length by omega)]; rfl
    rw [subL, e]
    split
    · exact ih.append (List.Sublist.refl _)
    · exact ih.trans (List.sublist_append_left _ _)
theorem subL_asc {x : List Int} (h : L18.Asc x) (s : Int) : L18.Asc (subL x s x.length) := by
  have := subL_sub x s x.length (Nat.le_refl _)
  rw [List.take_length] at this
  exact List.Pairwise.sublist this h
theorem subL_mem {x : List Int} {s : Int} {y : Int} (h : y ∈ subL x s x.length) : y ∈ x := by
  have := subL_sub x s x.length (Nat.le_refl _)
  rw [List.take_length] at this
  exact this.mem h
theorem subL_len (x : List Int) (s : Int) (i : Nat) (h : i ≤ x.length) : (subL x s i).length ≤ i := by
  have := (subL_sub x s i h).length_le
  rw [List.length_take] at this; omega
theorem bit_full (n i : Nat) (h : i < n) : bitI ((2 ^ n - 1 : Nat) : Int) i = true := by
  unfold bitI
  have h1 : (((2 ^ n - 1 : Nat) : Int) / 2 ^ i) = (((2 ^ n - 1) / 2 ^ i : Nat) : Int) := by
    rw [Int.natCast_ediv]; simp
  have h2 : (2 ^ n - 1) / 2 ^ i % 2 = 1 := by
    have := Nat.testBit_two_pow_sub_one n i
    rw [decide_eq_true h, Nat.testBit_eq_decide_div_mod_eq] at this
    simpa using this
  rw [h1]
  generalize (2 ^ n - 1) / 2 ^ i = z at h2
  have : ((z : Int).tmod 2) = ((z % 2 : Nat) : Int) := by rw [Int.tmod_eq_emod_of_nonneg (by omega)]; omega
  rw [this, h2]; rfl
theorem subL_full (x : List Int) : subL x ((2 ^ x.length - 1 : Nat) : Int) x.length = x := by
  have h : ∀ i, i ≤ x.length → subL x ((2 ^ x.length - 1 : Nat) : Int) i = x.take i := by
    intro i
    induction i with
    | zero => intro _; rfl
    | succ i ih =>
      intro hi
      rw [subL, if_pos (bit_full _ _ (by omega)), ih (by omega), List.take_add_one, getD_some 0 (show i < x.length by omega)]; rfl
  rw [h _ (Nat.le_refl _), List.take_length]
/-- What the laws ask of one lost set of the option's own passes. -/
theorem sub_sent {l : List Pass} {o : List Slot} (hv : validB l o = true) (s : Int) : sentN l o (subL (ownV o) s (ownV o).length) = sentV o (subL (ownV o) s (ownV o).length) ∧ sentE l o (subL (ownV o) s (ownV o).length) = 0 :=
  sent_yes hv (subL_asc (L18.ownI_asc _) s) (fun y hy => own_in (valid_parts hv).2.2.2 y (subL_mem hy))
theorem allow_asc {l : List Pass} {x : List Int} {k : Int} (h : allowB l x k = true) : L18.Asc x ∧ (mostV l x : Int) ≤ k := by
  unfold allowB at h
  simp only [Bool.and_eq_true, decide_eq_true_eq] at h
  have h2 := h.2.1
  unfold L18.setB at h2
  simp only [Bool.and_eq_true] at h2
  exact ⟨(L18.asc_of h2.1).1, h.2.2⟩
theorem allow_is {l : List Pass} {o : List Slot} (hv : validB l o = true) {x : List Int} (h : L18.Asc x) (h2 : ∀ y ∈ x, y ∈ ownV o) (c : Int) (hm : (mostV l x : Int) ≤ pickV c 4) : allowB l x (pickV c 4) = true := by
  rw [allow_yes (lim_pick c) (set_yes (proper_valid hv) h (fun y hy => own_in (valid_parts hv).2.2.2 y (h2 y hy)))]
  exact decide_eq_true hm
theorem late_facts {l : List Pass} {o : List Slot} (hv : validB l o = true) (h0 : 0 < o.length) (c : Int) :
    (lastN l o (pickV c 4) = (lastV l o (pickV c 4) : Nat) ∧ lateQ l o (pickV c 4) = lateL l o (pickV c 4) ∧ sureE l o (pickV c 4) = 0) ∧
    (sentN l o (lateL l o (pickV c 4)) = (lastV l o (pickV c 4) : Nat) ∧ sentE l o (lateL l o (pickV c 4)) = 0) ∧ allowB l (lateL l o (pickV c 4)) (pickV c 4) = true := by
  have hk : okV l o (pickV c 4) = true := by unfold okV; rw [hv, lim_pick]; rfl
  have hk0 := (L18.pickV_bd c (n := 4) (by decide)).1
  obtain ⟨q1, q2, q3⟩ := L18.late_sent (l := l) (o := o) hk0 h0
  have hin : ∀ y ∈ lateL l o (pickV c 4), y ∈ ownV o := fun y hy => by
    obtain ⟨s, hs, e⟩ := L18.mem_own.1 hy
    exact L18.mem_own.2 ⟨s, List.mem_of_mem_take hs, e⟩
  have ha : L18.Asc (lateL l o (pickV c 4)) := L18.ownI_asc _
  obtain ⟨r1, r2⟩ := sent_yes hv ha (fun y hy => own_in (valid_parts hv).2.2.2 y (hin y hy))
  exact ⟨⟨if_pos hk, if_pos hk, if_pos hk⟩, ⟨by rw [r1, q1], r2⟩, allow_is hv ha hin c q2⟩
/-- Whether a lost set with a smaller number fails. -/
def failS (l : List Pass) (o : List Slot) (k : Int) (n : Nat) : Bool := (List.range n).any fun s => allowB l (subL (ownV o) (s : Nat) (ownV o).length) k && (sentV o (subL (ownV o) (s : Nat) (ownV o).length) == -1)
theorem failS_succ (l : List Pass) (o : List Slot) (k : Int) (n : Nat) : failS l o k (n + 1) = (failS l o k n || (allowB l (subL (ownV o) (n : Nat) (ownV o).length) k && (sentV o (subL (ownV o) (n : Nat) (ownV o).length) == -1))) := by
  unfold failS
  rw [List.range_succ, List.any_append]; simp
theorem failS_all {l : List Pass} {o : List Slot} (hv : validB l o = true) (c : Int) : failS l o (pickV c 4) (2 ^ (ownV o).length) = !decide (pickV c 4 < (mostV l (ownV o) : Nat)) := by
  by_cases h : pickV c 4 < (mostV l (ownV o) : Nat)
  · rw [decide_eq_true h]
    show _ = false
    unfold failS
    rw [List.any_eq_false]
    intro s _ hh
    simp only [Bool.and_eq_true, beq_iff_eq] at hh
    obtain ⟨a1, a2⟩ := allow_asc hh.1
    have := L18.fails_most (l := l) a1 hh.2
    omega
  · rw [decide_eq_false h]
    show _ = true
    unfold failS
    rw [List.any_eq_true]
    refine ⟨2 ^ (ownV o).length - 1, List.mem_range.2 (by have := Nat.two_pow_pos (ownV o).length; omega), ?_⟩
    rw [subL_full, allow_is (x := ownV o) hv (L18.ownI_asc _) (fun _ h => h) c (by omega), L18.fails_own]; rfl
theorem sent_last {l : List Pass} {o : List Slot} {k : Int} {x : List Int} (h : allowB l x k = true) : sentV o x ≤ (lastV l o k : Nat) := by
  obtain ⟨a1, a2⟩ := allow_asc h
  exact L18.sent_late a1 a2
end Go.Proofs.Ytmajkagmcdlncaa
