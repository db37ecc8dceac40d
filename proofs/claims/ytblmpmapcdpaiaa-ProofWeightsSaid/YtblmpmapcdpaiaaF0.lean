/- Texts F3, Sd in one. -/
import Derived.Test.YtblmpmapcdpaiaaR14
import Derived.Test.YtblmpmapcdpaiaaL8
import Derived.Test.YtblmpmapcdpaiaaB6
import Derived.Test.YtblmpmapcdpaiaaQ0
import Derived.Test.YtblmpmapcdpaiaaB7
section
/- The reference's Made and Solve, for the laws of chapter 26: what they return, as slices. -/
namespace Go.Proofs.Ytblmpmapcdpaiaa
open Go.RowKit Lib

theorem nil_own {W : World} {B e n k : Nat} {a : Option Addr} {c : Nat} {xs : List Value} (h : W.ownsRow B e n (.slice a k c) k xs) : a = none → c = 0 := fun e => by
  rcases h.2 with ⟨e2, -⟩ | ⟨g, cap, cur, e2, -⟩
  · cases e2; rfl
  · cases e2; cases e
theorem made_view (vars : Int) (vx : Value) (x : List X3) (gain : List Int) (w : World) (hv : InR vars) (hx : XsAt w vx x) (hxr : ∀ y ∈ x, XR y) (hg : gain.length = 8) (hgr : ∀ y ∈ gain, InR y) :
    Calls Try.prog 17 #[.int .i64 vars, vx, .agg (gain.map (Value.int .i64)).toArray] w fun e w' => ∃ ra rc ga gc, e = .returned (.agg #[.int .i64 (madeP vars x gain).vars, .slice ra (madeP vars x gain).rows.length rc, .slice ga (madeP vars x gain).gain.length gc]) ∧ (RowsAt w' (.slice ra (madeP vars x gain).rows.length rc) (madeP vars x gain).rows ∧ IntsAt w' (.slice ga (madeP vars x gain).gain.length gc) (madeP vars x gain).gain ∧ (ra = none → rc = 0)) ∧ ((madeP vars x gain).rows.length ≤ rc ∧ rc ≤ maxLen) ∧ ((madeP vars x gain).gain.length ≤ gc ∧ gc ≤ maxLen) ∧ Below w.heap.size w w' := by
  refine (made_own vars vx x gain w hv hx hxr hg hgr).mono ?_
  rintro e w2 ⟨oB, vk, vg, rfl, hO, -, hB⟩
  obtain ⟨cs, hown, -⟩ := hO.own
  obtain ⟨vr', vg', e, hvr, hvg⟩ := hO.prog
  cases e
  simp only at hvr hvg
  obtain ⟨ra, rc, rfl, hr1, hr2⟩ := (show SlicesLen vk (madeP vars x gain).rows.length from hvr.len)
  obtain ⟨ga, gc, rfl, hg1, hg2⟩ := hvg.len
  exact ⟨ra, rc, ga, gc, rfl, ⟨hvr, hvg, nil_own hown⟩, ⟨hr1, hr2⟩, ⟨hg1, hg2⟩, hB⟩
theorem solve_view (m : Int) (rows : List RowD) (gn : List Int) (ra : Option Addr) (rc : Nat) (ga : Option Addr) (gc : Nat) (W : World) (hv : RowsAt W (.slice ra rows.length rc) rows ∧ IntsAt W (.slice ga gn.length gc) gn ∧ (ra = none → rc = 0)) (hval : validB ⟨m, rows, gn⟩ = true) :
    Calls Try.prog 21 #[.agg #[.int .i64 m, .slice ra rows.length rc, .slice ga gn.length gc]] W fun e w' => ∃ pa pc, e = .returned (.tuple #[.agg #[.bool (solveV ⟨m, rows, gn⟩).found, .int .i64 (solveV ⟨m, rows, gn⟩).set, .int .i64 (solveV ⟨m, rows, gn⟩).gain, .slice pa (solveV ⟨m, rows, gn⟩).proof.length pc], .int .i64 0]) ∧ StepsAt w' (.slice pa (solveV ⟨m, rows, gn⟩).proof.length pc) (solveV ⟨m, rows, gn⟩).proof ∧ ((solveV ⟨m, rows, gn⟩).proof.length ≤ pc ∧ pc ≤ maxLen) ∧ Below W.heap.size W w' := by
  have herr : errV ⟨m, rows, gn⟩ = 0 := by unfold errV; rw [hval]; rfl
  have h := solve_ref (.agg #[.int .i64 m, .slice ra rows.length rc, .slice ga gn.length gc]) ⟨m, rows, gn⟩ W ⟨_, _, rfl, hv.1, hv.2.1⟩ (fun c vr vg e1 e2 => by subst e2; simp at e1; obtain ⟨⟨h1, h2, h3⟩, -⟩ := e1; rw [← h3]; exact hv.2.2 h1)
  rw [herr] at h
  refine h.mono ?_
  rintro e w' ⟨v', rfl, ⟨vp, rfl, hs⟩, hB⟩
  obtain ⟨pa, pc, rfl, h1, h2⟩ := hs.len
  exact ⟨pa, pc, rfl, hs, ⟨h1, h2⟩, hB⟩
end Go.Proofs.Ytblmpmapcdpaiaa
end
section
/- Plain: what refutes and what bounds, about the list of all choices that keep the rows; how long bent proofs and their lists of weights are. -/
namespace Go.Proofs.Ytblmpmapcdpaiaa
open Go.RowKit Lib

theorem all_mem {p : ProgD} {x : Int} (h : x ∈ allV p) : validB p = true ∧ keepsB p.rows x.toNat = true ∧ gainV p x = ch p.gain x.toNat := by
  unfold allV at h
  split at h
  · rename_i hv
    unfold intL at h
    obtain ⟨s, hs, rfl⟩ := List.mem_map.1 h
    obtain ⟨h1, h2⟩ := chL_mem.1 hs
    refine ⟨hv, by simpa using h2, ?_⟩
    unfold gainV
    rw [if_pos (choiceB_ok hv h1)]
  · cases h
theorem refutes_none {p : ProgD} {l : List StepD} (h : (wrongD p l == -1) = true) : allV p = [] := by
  have h := beq_iff_eq.1 h
  rcases hx : allV p with - | ⟨x, r⟩
  · rfl
  · have := all_mem (p := p) (x := x) (by rw [hx]; exact List.mem_cons_self)
    rw [refutes_sound h] at this
    cases this.2.1
theorem bounds_all {p : ProgD} {l : List StepD} {g : Int} (h : boundsV p l g = true) {x : Int} (hx : x ∈ allV p) : gainV p x ≤ g := by
  obtain ⟨-, h1, h2⟩ := all_mem hx
  rw [h2]
  exact bounds_sound h _ h1
/-- A list of at most so many steps, each with at most so many weights. -/
def SmallS (L M : Nat) (l : List StepD) : Prop := l.length ≤ L ∧ ∀ s ∈ l, s.wts.length ≤ M
theorem SmallS.mono {L M L' M' : Nat} {l : List StepD} (h : SmallS L M l) (h1 : L ≤ L') (h2 : M ≤ M') : SmallS L' M' l := ⟨Nat.le_trans h.1 h1, fun s hs => Nat.le_trans (h.2 s hs) h2⟩
theorem bentS_wts (s : StepD) (n : Nat) (x1 x2 x3 : Int) : (bentS s n x1 x2 x3).wts.length ≤ s.wts.length + 1 := by
  unfold bentS
  repeat' split
  all_goals simp
theorem SmallS.bent {L M : Nat} {l : List StepD} (h : SmallS L M l) (x0 x1 x2 x3 : Int) : SmallS L (M + 1) (bentD l x0 x1 x2 x3) := by
  unfold bentD
  split
  · exact ⟨Nat.zero_le _, fun s hs => by cases hs⟩
  · rename_i h0
    split
    · exact ⟨by rw [List.length_take]; have := h.1; omega, fun s hs => Nat.le_succ_of_le (h.2 s (List.mem_of_mem_take hs))⟩
    · refine ⟨by rw [List.length_set]; exact h.1, fun s hs => ?_⟩
      rcases List.mem_or_eq_of_mem_set hs with h1 | rfl
      · exact Nat.le_succ_of_le (h.2 s h1)
      · have hb := pickI_bd x0 (n := (l.length : Int)) (by omega)
        have := bentS_wts (l.getD (pickI x0 (l.length : Int)).toNat st0) l.length x1 x2 x3
        have hg : (l.getD (pickI x0 (l.length : Int)).toNat st0).wts.length ≤ M := by
          rw [List.getD_eq_getElem?_getD, List.getElem?_eq_getElem (show (pickI x0 (l.length : Int)).toNat < l.length by omega), Option.getD_some]
          exact h.2 _ (List.getElem_mem _)
        omega
theorem growS_wts (rows : List RowD) : ∀ (f d set k : Nat), ∀ s ∈ growS rows f d set k, s.wts.length ≤ 1 := by
  intro f
  induction f with
  | zero =>
    intro d set k s hs
    unfold growS at hs
    split at hs
    · rw [List.mem_singleton] at hs; subst hs; exact Nat.le_refl _
    · cases hs
  | succ f ih =>
    intro d set k s hs
    unfold growS at hs
    split at hs
    · rw [List.mem_singleton] at hs; subst hs; exact Nat.le_refl _
    · rcases List.mem_cons.1 hs with rfl | hs
      · exact Nat.zero_le _
      · rcases List.mem_append.1 hs with hs | hs
        · exact ih _ _ _ s hs
        · exact ih _ _ _ s hs
theorem proof_small {p : ProgD} (hm : p.vars ≤ 8) (h0 : 0 ≤ p.vars) : SmallS 511 1 (proofS p) := ⟨proofS_len hm h0, fun s hs => growS_wts _ _ _ _ _ s hs⟩
/-- What Solve finds is of moderate size. -/
theorem solve_small {p : ProgD} (hv : validB p = true) (hm : p.vars ≤ 8) : SmallS 511 1 (solveV p).proof ∧ -12000000000 ≤ (solveV p).gain ∧ (solveV p).gain ≤ 12000000000 := by
  have h0 : 0 ≤ p.vars := (validB_true hv).1
  unfold solveV
  rw [if_pos hv]
  cases ho : bestS p with
  | none => exact ⟨proof_small hm h0, show (-12000000000 : Int) ≤ 0 by decide, show (0 : Int) ≤ 12000000000 by decide⟩
  | some x =>
    obtain ⟨-, -, -, h1, h2⟩ := complete_some hv hm ho
    exact ⟨proof_small hm h0, h1, h2⟩
end Go.Proofs.Ytblmpmapcdpaiaa
end
