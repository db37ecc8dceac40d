/- Plain facts about the options that integers determine, and about a worst lost set. -/
import Derived.Test.YtmajkagmcdlncaaW3
namespace Go.Proofs.Ytmajkagmcdlncaa
open L18 (Pass Slot noPass noSlot validB passesG optV pickV X3 ownV mostV sentV allowB limB worstV wrs accW goneV Asc putV manyV)

theorem optsK_valid {l : List Pass} (h : ∀ c, optV l c ≠ [] → validB l (optV l c) = true) (x : List (List Int)) : ∀ i, ∀ o ∈ optsK l x i, validB l o.slots = true
  | 0, _, ho => by cases ho
  | i + 1, o, ho => by
    have ih := optsK_valid h x i
    rw [optsK] at ho
    split at ho
    · rename_i hp
      rcases List.mem_append.1 ho with ho | ho
      · exact ih o ho
      · simp at ho; subst ho
        exact h ((x.getD i []).take 8) (fun e => by rw [e] at hp; exact absurd hp (Nat.lt_irrefl 0))
    · exact ih o ho
theorem opts_valid (x : List X3) (y : List (List Int)) : ∀ o ∈ optsG (passesG x) y, validB (passesG x) o.slots = true := by
  refine optsK_valid (fun c hc => ?_) y _
  by_cases h : passesG x = []
  · rw [h] at hc; exact absurd (optV_nil c) hc
  · exact (L18.optV_ok c h).1
theorem opts_len (l : List Pass) (y : List (List Int)) : (optsG l y).length ≤ 8 := Nat.le_trans (optsK_len l y _) (Nat.min_le_right _ _)
theorem slotsL_at (os : List OptD) (i : Nat) : (slotsL os).getD i [] = (os.getD i dOpt).slots := by
  unfold slotsL
  rw [List.getD_eq_getElem?_getD, List.getD_eq_getElem?_getD, List.getElem?_map]
  cases os[i]? <;> rfl
theorem worst_facts {l : List Pass} {os : List OptD} (hp : L18.properB l = true) (h8 : os.length ≤ 12) (hv : ∀ o ∈ os, validB l o.slots = true) (c : Int) :
    worstE l os (pickV c 4) = 0 ∧ allowB l (worstL l os (pickV c 4)) (pickV c 4) = true ∧
    (∀ i, i < os.length → sentE l (os.getD i dOpt).slots (worstL l os (pickV c 4)) = 0 ∧ ((sentN l (os.getD i dOpt).slots (worstL l os (pickV c 4)) == -1) = (nI (worstS l os (pickV c 4))).contains (i : Int))) ∧
    (worstS l os (pickV c 4)).Pairwise (· < ·) ∧ (∀ i ∈ worstS l os (pickV c 4), i < os.length) ∧ (worstL l os (pickV c 4)).length ≤ 1000 ∧
    (∀ x : List Int, Asc x → (mostV l x : Int) ≤ pickV c 4 → manyV (slotsL os) x os.length ≤ (worstS l os (pickV c 4)).length) := by
  have hb : worstB l os (pickV c 4) = true := by
    unfold worstB
    rw [decide_eq_true h8, lim_pick, Bool.true_and, Bool.true_and, List.all_eq_true]
    exact hv
  have hk := (L18.pickV_bd c (n := 4) (by decide)).1
  have hlim := lim_pick c
  unfold worstE worstL worstS
  rw [if_pos hb, if_pos hb, if_pos hb]
  generalize pickV c 4 = k at hk hlim
  have hasc := L18.gone_asc (slotsL os) (worstV (accW l (slotsL os) k) os.length)
  have hg := L18.worst_good l (slotsL os) k os.length
  have hin : ∀ y ∈ goneV (slotsL os) (worstV (accW l (slotsL os) k) os.length), 0 ≤ y ∧ y < l.length := fun y hy => by
    obtain ⟨i, h1, h2⟩ := L18.gone_mem.1 hy
    have hil := hg.2.1 i h1
    rw [slotsL_at] at h2
    exact own_in (valid_parts (hv _ (L18.getD_mem dOpt hil))).2.2.2 y h2
  have hset := set_yes hp hasc hin
  refine ⟨rfl, ?_, fun i hi => ?_, hg.1, hg.2.1, ?_, fun x hx hm => L18.many_le hx hm⟩
  · rw [allow_yes hlim hset]
    exact decide_eq_true (L18.worst_allowed hk)
  · obtain ⟨r1, r2⟩ := sent_yes (hv _ (L18.getD_mem dOpt hi)) hasc hin
    refine ⟨r2, ?_⟩
    rw [r1, Bool.eq_iff_iff, beq_iff_eq, ← slotsL_at, L18.worst_fails hk hi]
    unfold nI
    simp
    exact ⟨fun h => ⟨i, h, rfl⟩, fun ⟨a, h, e⟩ => by have : a = i := by omega
                                                     exact this ▸ h⟩
  · have hsub := L18.asc_sub hasc (b := (List.range l.length).map fun n : Nat => (n : Int)) (by
      unfold L18.Asc
      rw [List.pairwise_map]
      exact List.pairwise_lt_range.imp fun h => by omega) (fun y hy => by
        have := hin y hy
        rw [List.mem_map]
        exact ⟨y.toNat, List.mem_range.2 (by omega), by omega⟩)
    have := hsub.length_le
    rw [List.length_map, List.length_range] at this
    unfold L18.properB at hp
    simp only [Bool.and_eq_true, decide_eq_true_eq] at hp
    have := hp.1
    omega
/-- The other lost set of the law: passes are added as long as it is allowed. -/
def othK (l : List Pass) (s k : Int) : Nat → List Int
  | 0 => []
  | i + 1 => if bitI s i = true then if allowB l (putV (othK l s k i) i) k = true then putV (othK l s k i) i else othK l s k i else othK l s k i
theorem oth_facts {l : List Pass} {s k : Int} (hk : 0 ≤ k) : ∀ i, Asc (othK l s k i) ∧ (∀ y ∈ othK l s k i, 0 ≤ y ∧ y < i) ∧ (mostV l (othK l s k i) : Int) ≤ k ∧ (othK l s k i).length ≤ i
  | 0 => ⟨List.Pairwise.nil, fun y hy => (by cases hy), hk, Nat.le_refl _⟩
  | i + 1 => by
    obtain ⟨h1, h2, h3, h4⟩ := oth_facts (l := l) (s := s) hk i
    rw [othK]
    have hold : Asc (othK l s k i) ∧ (∀ y ∈ othK l s k i, 0 ≤ y ∧ y < ((i + 1 : Nat) : Int)) ∧ (mostV l (othK l s k i) : Int) ≤ k ∧ (othK l s k i).length ≤ i + 1 := ⟨h1, fun y hy => by have := h2 y hy; omega, h3, by omega⟩
    split
    · split
      · rename_i ha
        refine ⟨L18.putV_asc h1 _, fun y hy => ?_, (allow_asc ha).2, Nat.le_trans (put_len _ _) (by omega)⟩
        rcases (L18.putV_mem _ _ _).1 hy with rfl | hy
        · omega
        · have := h2 y hy; omega
      · exact hold
    · exact hold
theorem oth_sent {l : List Pass} {s k : Int} (hk : 0 ≤ k) {o : List Slot} (hv : validB l o = true) : sentN l o (othK l s k l.length) = sentV o (othK l s k l.length) ∧ sentE l o (othK l s k l.length) = 0 := by
  obtain ⟨h1, h2, -⟩ := oth_facts (l := l) (s := s) hk l.length
  exact sent_yes hv h1 h2
end Go.Proofs.Ytmajkagmcdlncaa
