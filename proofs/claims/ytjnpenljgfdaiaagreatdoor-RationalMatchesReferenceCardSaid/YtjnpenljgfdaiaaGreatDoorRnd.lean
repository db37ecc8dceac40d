/- A region that draws its order, within a round over a function: as outside, under one condition on the world. Over any program. -/
import Derived.Deep.RegionHeld3
import Derived.OrdersIn
import Derived.TacticsIn
import Derived.Test.YtjnpenljgfdaiaaGreatDoorRangeM
namespace Go.Proofs.YtjnpenljgfdaiaaGreatDoor
open Go.RowKit

/-- Q where all goes well, nothing else. -/
def OnlyN (Q : Exit → Act → World → Prop) : Exit → Act → World → Prop
  | .normal, a, w => Q .normal a w
  | _, _, _ => False
def noDefer (ops : Array Oper) : Bool := ops.all fun o => match o.op with | .defer _ => false | _ => true
theorem noDefer_spec {ops : Array Oper} (h : noDefer ops = true) {i : Nat} {o : Oper} (ho : ops[i]? = some o) : ∀ c, o.op ≠ .defer c := by
  intro c hc
  unfold noDefer at h
  have hm := Array.mem_of_getElem? ho
  have := Array.all_eq_true_iff_forall_mem.1 h o hm
  rw [hc] at this
  cases this
theorem noLets (Q : Exit → Act → World → Prop) : ¬ LetsOut (OnlyN Q) := fun ⟨_, _, h⟩ => h
theorem rowsIn_round {l n : Nat} {P : Program} {row : String} {args : Array Value} {w : World} {R : Value → World → Prop} (h : Rows P row args w R) : RowsIn (Fence.wide.inRound l) n P row args w R := by
  intro c cs _
  obtain ⟨v, w', r, s⟩ := h c cs
  exact ⟨v, w', r, stepsIn_wide.2 s⟩
section
variable {P : Program} {ops : Array Oper} {Q : Exit → Act → World → Prop} {md : Region.Mode}
theorem wpOp_round {l n i : Nat} (hnd : noDefer ops = true) {K K' : Act → World → Prop} (hK : ∀ a w, K a w → K' a w) {a : Act} {w : World} (h : wpOp P ops (OnlyN Q) i K a w) : wpOpIn (Fence.wide.inRound l) n P ops Q i K' a w := by
  unfold wpOp at h
  unfold wpOpIn
  cases hi : ops[i]? with
  | none => rw [hi] at h; exact hK _ _ h
  | some o =>
    simp only [hi] at h ⊢
    split
    · rename_i hw
      rw [if_pos hw] at h
      rcases h with h | ⟨-, h⟩
      · refine ⟨fun _ _ => trivial, ?_⟩
        rw [Fence.inRound_round, Oper.semAt_eq _ _ _ (noDefer_spec hnd hi)]
        unfold Oper.wp at h
        generalize (execOp a.eval o).run P w = r at h ⊢
        cases r with
        | ok x w' =>
          cases x <;> simp only [Oper.upon] at h <;> simp only [Oper.uponIn] <;>
            first
              | exact hK _ _ h
              | exact ⟨fun hc => by simp [Fence.wide] at hc, CallsIn.inRound l (callsIn_wide.2 (Calls.mono h (fun e w'' he => by cases e <;> first | exact hK _ _ he | exact he.elim | exact absurd he (noLets Q))))⟩
              | exact ⟨fun hc => by simp [Fence.wide] at hc, rowsIn_round (Rows.mono h (fun _ _ he => hK _ _ he))⟩
              | exact h.elim
        | halt x w' => cases x <;> simp only [Oper.upon] at h <;> exact h.elim
      · exact absurd h (noLets Q)
    · rename_i hw
      rw [if_neg hw] at h
      exact ⟨fun _ _ => trivial, hK _ _ h⟩
theorem wpAny_round {l n : Nat} (hnd : noDefer ops = true) : ∀ (fuel : Nat) (listed : Array Bool) (a : Act) (w : World), wpAny P md ops (OnlyN Q) fuel listed a w → wpAnyIn (Fence.wide.inRound l) n P md ops Q fuel listed a w := by
  intro fuel
  induction fuel with
  | zero => intro listed a w h; exact h
  | succ fuel ih =>
    intro listed a w h
    exact ⟨fun hr => h.1 hr, fun i hi => wpOp_round hnd (fun a w hh => ih _ a w hh) (h.2 i hi)⟩
end
/-- The beginning of a drawn region in a round: S is shown of the world behind the draw. -/
theorem wpIn_round_held {P : Program} {ops : Array Oper} {Q : Exit → Act → World → Prop} {S : World → Prop} {l n id : Nat} {a : Act} {w : World} (hm : P.follows .mixedOrders = true) (hnd : noDefer ops = true) (hS : S w.drew)
    (h : S w.drew → wpAnyH P .any ops (OnlyN Q) S ops.size (Array.replicate ops.size false) a w.drew) : (Code.region id ops true).wpIn (Fence.wide.inRound l) n P Q a w :=
  wpIn_region_any hm (wpAny_round hnd _ _ _ _ (wpAny_of_held _ _ _ _ (h hS)))
/-! ### S is not owed behind an operation 'z' that waits for all others -/
section
variable {P : Program} {ops : Array Oper} {Q : Exit → Act → World → Prop} {md : Region.Mode} {S : World → Prop} {z : Nat}
def wpE (P : Program) (md : Region.Mode) (ops : Array Oper) (Q : Exit → Act → World → Prop) (S : World → Prop) (z : Nat) : Nat → Array Bool → Act → World → Prop
  | 0, up, a, w => Region.ready md ops up = [] ∧ Q .normal a w
  | m + 1, up, a, w => (Region.ready md ops up = [] → Q .normal a w) ∧
      ∀ j ∈ Region.ready md ops up, wpOp P ops Q j (fun a' w' => (j ≠ z → S w') ∧ wpE P md ops Q S z m (up.setIfInBounds j true) a' w') a w
theorem wpAny_of_E : ∀ (m : Nat) (up : Array Bool) (a : Act) (w : World), wpE P md ops Q S z m up a w → wpAny P md ops Q m up a w
  | 0, _, _, _, h => h
  | m + 1, _, _, _, h => ⟨h.1, fun j hj => wpOp_mono (fun _ _ h' => wpAny_of_E m _ _ _ h'.2) (h.2 j hj)⟩
def waitsB (md : Region.Mode) (ops : Array Oper) (z i : Nat) : Bool := (ops[z]?.map fun o => o.after.any fun e => Region.binds md e && e.on == i).getD false
theorem waits_spec {i : Nat} (h : waitsB md ops z i = true) {up : Array Bool} (hi : i ∈ Region.ready md ops up) : z ∉ Region.ready md ops up := by
  intro hz
  obtain ⟨-, oz, hoz, hall⟩ := mem_ready.1 hz
  unfold waitsB at h
  rw [hoz] at h
  have h' : oz.after.any (fun e => Region.binds md e && e.on == i) = true := h
  simp only [Array.any_eq_true', Bool.and_eq_true, beq_iff_eq] at h'
  obtain ⟨e, he, hb⟩ := h'
  have h1 := hall e he hb.1
  have h0 := (mem_ready.1 hi).1
  rw [hb.2] at h1
  rcases Nat.lt_or_ge i up.size with h' | h'
  · simp [h'] at h0 h1; rw [h0] at h1; cases h1
  · simp [Array.getElem?_eq_none h'] at h1
theorem wpE_take {i : Nat} {oi : Oper} {v : Value} {m : Nat} {up : Array Bool} {a : Act} {w : World} (hi : ops[i]? = some oi) (hs : Region.noSelect ops = true) (hf : Region.free md ops up i = true) (hr : (Region.ready md ops up).contains i = true)
    (hz : waitsB md ops z i = true) (hQ : ∀ c a w, Q (.panic c) (a.put oi.dst v) w → Q (.panic c) a w) (hy : YieldsIf P ops S oi v a) (hS : S w)
    (h : wpE P md ops Q S z m (up.setIfInBounds i true) (a.put oi.dst v) w) : wpE P md ops Q S z (m + 1) up a w := by
  have hsel := Region.noSelect_spec hs
  have main : ∀ (m : Nat) (up : Array Bool) (a : Act) (w : World),
      (∀ j oj, ops[j]? = some oj → j ≠ i → up.getD j true = false → (∀ e ∈ oj.after, Region.binds md e = true → e.on ≠ i) → oi.apart ops oj = true) →
      i ∈ Region.ready md ops up → YieldsIf P ops S oi v a → S w → wpE P md ops Q S z m (up.setIfInBounds i true) (a.put oi.dst v) w → wpE P md ops Q S z (m + 1) up a w := by
    intro m
    induction m with
    | zero =>
      intro up a w _ hr hy hS H
      refine ⟨fun h => (by rw [h] at hr; cases hr), fun j hj => ?_⟩
      by_cases hji : j = i
      · subst hji; exact hy.wpOp hi hS ⟨fun _ => hS, H⟩
      · have := ready_mono hj hji
        rw [H.1] at this
        cases this
    | succ m ih =>
      intro up a w hfree hr hy hS H
      refine ⟨fun h => (by rw [h] at hr; cases hr), fun j hj => ?_⟩
      by_cases hji : j = i
      · subst hji; exact hy.wpOp hi hS ⟨fun _ => hS, H⟩
      · have hjz : j ≠ z := fun e => waits_spec hz hr (e ▸ hj)
        have h1 := H.2 j (ready_mono hj hji)
        obtain ⟨hjun, oj, hoj, hall⟩ := mem_ready.1 hj
        have hnot : ∀ e ∈ oj.after, Region.binds md e = true → e.on ≠ i := fun e he hb heq => by
          have h1 := hall e he hb
          have h0 := (mem_ready.1 hr).1
          rw [heq] at h1
          rcases Nat.lt_or_ge i up.size with h' | h'
          · simp [h'] at h0 h1; rw [h0] at h1; cases h1
          · simp [Array.getElem?_eq_none h'] at h1
        have h2 := wpOp_putIf hoj (hfree j oj hoj hji hjun hnot) (fun cs b => hsel i oi cs b hi) (fun cs b => hsel j oj cs b hoj) hQ hy h1
        have hfree' : ∀ k ok, ops[k]? = some ok → k ≠ i → (up.setIfInBounds j true).getD k true = false → (∀ e ∈ ok.after, Region.binds md e = true → e.on ≠ i) → oi.apart ops ok = true := fun k ok hk hki hun hno => by
          refine hfree k ok hk hki ?_ hno
          by_cases hjk : j = k
          · subst hjk; exact hjun
          · rw [getD_set_ne true hjk] at hun; exact hun
        refine wpOp_mono (fun a' w' h3 => ⟨h3.2.1, ih (up.setIfInBounds j true) a' w' hfree' (ready_mono hr (Ne.symm hji)) h3.1 (h3.2.1 hjz) ?_⟩) h2
        rw [Array.setIfInBounds_comm _ _ hji]
        exact h3.2.2
  exact main m up a w (Region.free_spec hi hf) (by simpa using hr) hy hS h
/-- One operation alone may come up. -/
theorem wpE_one {i : Nat} {o : Oper} {m : Nat} {up : Array Bool} {a : Act} {w : World} (hr : Region.ready md ops up = [i]) (ho : ops[i]? = some o)
    (h : ∀ K' : Act → World → Prop, Shut (∀ a w, (i ≠ z → S w) → ((i ≠ z → S w) → wpE P md ops Q S z m (up.setIfInBounds i true) a w) → K' a w) → if Region.wanted o (yielded ops a.tmps) = true then Oper.wp P o a w K' Q else K' (a.put o.dst undef) w) : wpE P md ops Q S z (m + 1) up a w := by
  refine ⟨fun h0 => (by rw [hr] at h0; cases h0), fun j hj => ?_⟩
  rw [hr] at hj
  obtain rfl : j = i := by simpa using hj
  exact wpOp_step ho (fun K' hK => h K' (fun a w hS hW => hK a w ⟨hS, hW hS⟩))
theorem wpE_done {up : Array Bool} {a : Act} {w : World} (hr : Region.ready md ops up = []) (h : Q .normal a w) : ∀ m, wpE P md ops Q S z m up a w
  | 0 => ⟨hr, h⟩
  | _ + 1 => ⟨fun _ => h, by rw [hr]; simp⟩
end
/-- The beginning of a drawn region in a round, S not owed behind operation z. -/
theorem wpIn_round_E {P : Program} {ops : Array Oper} {Q : Exit → Act → World → Prop} {S : World → Prop} (z : Nat) {l n id : Nat} {a : Act} {w : World} (hm : P.follows .mixedOrders = true) (hnd : noDefer ops = true) (hS : S w.drew)
    (h : S w.drew → wpE P .any ops (OnlyN Q) S z ops.size (Array.replicate ops.size false) a w.drew) : (Code.region id ops true).wpIn (Fence.wide.inRound l) n P Q a w :=
  wpIn_region_any hm (wpAny_round hnd _ _ _ _ (wpAny_of_E _ _ _ _ (h hS)))
/-- The same outside of a round. -/
theorem wp_region_E {P : Program} {ops : Array Oper} {Q : Exit → Act → World → Prop} {S : World → Prop} (z : Nat) {id : Nat} {a : Act} {w : World} (hm : P.follows .mixedOrders = true) (hS : S w.drew)
    (h : S w.drew → wpE P .any ops (NoPanic Q) S z ops.size (Array.replicate ops.size false) a w.drew) : (Code.region id ops true).wp P Q a w :=
  wp_region_noPanic (wp_region_any hm (wpAny_of_E _ _ _ _ (h hS)))
theorem OnlyN.normal {Q : Exit → Act → World → Prop} {a : Act} {w : World} (h : Q .normal a w) : OnlyN Q .normal a w := h
/-- One operation of a list, in a round, by what holds of it outside. -/
theorem wpListIn_round {P : Program} {ops : Array Oper} {Q : Exit → Act → World → Prop} {k n : Nat} {o : Oper} {rest : List Oper} {a : Act} {w : World} (hnd : ∀ c, o.op ≠ .defer c)
    (h : wpList P ops (OnlyN fun _ a w => wpListIn (Fence.wide.inRound k) n P ops Q rest a w) [o] a w) : wpListIn (Fence.wide.inRound k) n P ops Q (o :: rest) a w := by
  unfold wpList at h
  unfold wpListIn
  split
  · rename_i hw
    rw [if_pos hw] at h
    rcases h with h | ⟨-, h⟩
    · refine ⟨fun _ _ => trivial, ?_⟩
      rw [Fence.inRound_round, Oper.semAt_eq _ _ _ hnd]
      unfold Oper.wp at h
      generalize (execOp a.eval o).run P w = r at h ⊢
      cases r with
      | ok x w' =>
        cases x <;> simp only [Oper.upon] at h <;> simp only [Oper.uponIn] <;>
          first
            | exact h
            | exact ⟨fun hc => by simp [Fence.wide] at hc, CallsIn.inRound k (callsIn_wide.2 (Calls.mono h (fun e w'' he => by cases e <;> first | exact he | exact he.elim | exact absurd he (noLets _))))⟩
            | exact ⟨fun hc => by simp [Fence.wide] at hc, rowsIn_round (Rows.mono h (fun _ _ he => he))⟩
            | exact h.elim
      | halt x w' => cases x <;> simp only [Oper.upon] at h <;> exact h.elim
    · exact absurd h (noLets _)
  · rename_i hw
    rw [if_neg hw] at h
    exact ⟨fun _ _ => trivial, h⟩
theorem wpOps_round {P : Program} {ops : Array Oper} {Q : Exit → Act → World → Prop} {k n : Nat} (hnd : noDefer ops = true) : ∀ (l : List Nat) (a : Act) (w : World), wpOps P ops (OnlyN Q) l a w → wpOpsIn (Fence.wide.inRound k) n P ops Q l a w := by
  intro l
  induction l with
  | nil => intro a w h; exact h
  | cons i l ih =>
    intro a w h
    rw [wpOps_cons] at h
    rw [wpOpsIn_cons]
    exact wpOp_round hnd (fun a w hh => ih a w hh) h
/-- A region that is carried out in its order, in a round. -/
theorem wpIn_round_lit {P : Program} {Q : Exit → Act → World → Prop} {k n id : Nat} {l : List Oper} {a : Act} {w : World} (hnd : noDefer l.toArray = true) (h : wpList P l.toArray (OnlyN Q) l a w) : (Code.region id l.toArray false).wpIn (Fence.wide.inRound k) n P Q a w := by
  refine wpIn_region (wpOps_round hnd _ _ _ ?_)
  rw [List.range_eq_range', show l.toArray.size = l.length by simp, wpOps_eq_wpList l 0 (by simp)]
  exact h
end Go.Proofs.YtjnpenljgfdaiaaGreatDoor
