/- Steps for laws: strings appended to strings of the call's own; what a power failure leaves. -/
import Derived.Test.YtnckpnbecmmcpaaGreatDoorJK
import Derived.Laws.AppendOwnNone
namespace Go.Proofs.YtnckpnbecmmcpaaGreatDoor
open Go.RowKit Lib
theorem own_emptyS {W : World} {B base : Nat} (hb : Blk W B #[] 9) (h : base ≤ B) : W.ownsRow base 9 1 (.slice (some ⟨B, 0, none⟩) 0 0) 0 [] :=
  ⟨rfl, .inr ⟨B, 0, #[], rfl, h, hb, Nat.le_refl _, by decide, rfl, rfl⟩⟩
/-- An append of owned strings to strings of the call's own, as a step of a region. -/
theorem step_cat {ops : Array Oper} {o : Oper} {a : Act} {w : World} {K : Act → World → Prop} {Q : Exit → Act → World → Prop} {E : Prop}
    (hg : o.guard = none) (s x : Operand) (hop : o.op = Op.call { callee := Callee.builtin Builtin.append, args := #[s, x], argTypes := #[22, 22] })
    (base base2 : Nat) {v v2 : Value} {l l2 : List ByteArray} (hown : w.ownsRow base 9 1 v l.length (l.map Value.string)) (hown2 : w.ownsRow base2 9 1 v2 l2.length (l2.map Value.string)) (hs : a.eval s = v) (hx : a.eval x = v2) (hn : l.length + l2.length ≤ 10000000) (hbase : base ≤ w.heap.size)
    (hK : ∀ v' w', w'.ownsRow base 9 1 v' (l ++ l2).length ((l ++ l2).map Value.string) → w.grownBy w' v.ownBlock → K (a.put o.dst v') w') :
    if Region.wanted o (yielded ops a.tmps) = true then Oper.wp Tryz.prog o a w K Q else E := by
  have hw : Region.wanted o (yielded ops a.tmps) = true := by simp [Region.wanted, hg]
  rw [if_pos hw]
  obtain ⟨i, hi, hz0, hz1, hz2⟩ := info_parts E22.info
  generalize hnn : l.length = n at *
  generalize hmm : l2.length = m at *
  have hm2 := hown2.1
  rw [List.map_append, List.length_append, hnn, hmm] at hK
  rcases hown2.2 with ⟨e, hnil⟩ | ⟨g, cap, cur, e, h1, h2, h3, h4, h5, h6⟩
  · subst hnil
    have e0 : l2.map Value.string = [] := List.eq_nil_of_length_eq_zero (by simpa using hm2)
    rw [e0, List.append_nil] at hK
    have hrun := run_append_owned_none (P := Tryz.prog) (w := w) base 22 o.type 9 i 1 E22.und hi v n _ hown
    have := hK v w (by simpa using hown) ⟨rfl, rfl, rfl, Nat.le_refl _, fun _ _ _ => rfl⟩
    unfold Oper.wp
    rw [e] at hx
    simp [execOp, hop, resolve, invoke, builtin, hs, hx, hrun, Result.andThen]
    exact this
  · obtain ⟨v', w', hrun, r1, r2, -⟩ := run_append_own (P := Tryz.prog) w base 22 o.type 9 i _ 1 16 E22.und hi hz0 hz1 hz2 E22.zs E22.pos v n _ hown ⟨g, 0, none⟩ m cap (l2.map Value.string) hm2 (fun j u hj => hown2.cells (g := g) (by rw [e]; rfl) j u hj) (fun u hu => by rw [List.mem_map] at hu; obtain ⟨t, -, rfl⟩ := hu; rfl) (by unfold maxLen; omega) (by omega) hbase
    rw [e] at hx
    unfold Oper.wp
    simp [execOp, hop, resolve, invoke, builtin, hs, hx, hrun, Result.andThen]
    exact hK v' w' r1 r2
def SurvI (n k m : Nat) (J : JouD) (D : DiskD) (was want : List ByteArray) : Prop :=
  (J.broken = false ∧ Good n J.L D ∧ was = J.L ∧ want = J.L ∧ (k < m → D.left = 0)) ∨ (k = m ∧ J.L = was ∧ Half n was want D)
theorem SurvI.crash {n k m : Nat} {J : JouD} {D : DiskD} {was want : List ByteArray} (h : SurvI n k m J D was want) (kl : List Int) (torn : Int) :
    ∃ K, (K = was ∨ K = want) ∧ openE n (crashD D kl torn) = 0 ∧ openL n (crashD D kl torn) = K ∧ Good n K (openD n (crashD D kl torn)) := by
  rcases h with ⟨-, hg, rfl, rfl, -⟩ | ⟨-, -, hh⟩
  · have := open_crash hg.inv (hg.crash kl torn)
    exact ⟨_, .inl rfl, this.1, this.2.1, this.2.2.1⟩
  · rcases hh.crash kl torn with hr | hr
    · have := open_crash hh.inv hr
      exact ⟨_, .inl rfl, this.1, this.2.1, this.2.2.1⟩
    · have := open_crash hh.inv hr
      exact ⟨_, .inr rfl, this.1, this.2.1, this.2.2.1⟩
theorem SurvI.pend {n k m : Nat} {J : JouD} {D : DiskD} {was want : List ByteArray} (h : SurvI n k m J D was want) : D.pend.length ≤ 90000 := by
  rcases h with ⟨-, hg, -⟩ | ⟨-, -, hh⟩
  · rw [hg.pend]; decide
  · have := hh.one; omega
theorem Good.len {n : Nat} {L : List ByteArray} {D : DiskD} (h : Good n L D) : L.length ≤ n := by
  have := tapeN_len L
  have := h.full.2.1
  omega
theorem sameB_iff {a b : List ByteArray} : sameB a b = true ↔ a = b := by unfold sameB; exact decide_eq_true_iff
theorem sys_rec {base : Nat} {W : World} {Jb B n : Nat} {J : JouD} {D : DiskD} (h : SysB base W Jb B n J D) (hl : J.L.length ≤ 1000000) : Calls Tryz.prog 19 #[.pointer (some ⟨Jb, 0, none⟩)] W fun e w' => ∃ v, e = .returned v ∧ w'.ownsRow W.heap.size 9 1 v J.L.length (J.L.map Value.string) ∧ SysB base w' Jb B n J D ∧ Below W.heap.size W w' := by
  refine (records19 h.jou hl).mono ?_
  rintro e w' ⟨v, rfl, ho, hb⟩
  exact ⟨v, rfl, ho, h.below hb, hb⟩
theorem ints_take {W : World} {a : Option Addr} {c : Nat} {l : List Int} (h : IntsAt W (.slice a l.length c) l) (k : Nat) (hk : k ≤ l.length) : IntsAt W (.slice a k c) (l.take k) := by
  obtain ⟨a', c', e, h1, h2, h3⟩ := h
  cases e
  refine ⟨a, c, by rw [List.length_take, Nat.min_eq_left hk], by rw [List.length_take]; omega, h2, fun h0 => ?_⟩
  obtain ⟨b, o, rfl, h4⟩ := h3 (by rw [List.length_take] at h0; omega)
  refine ⟨b, o, rfl, fun j y hj => h4 j y ?_⟩
  rw [List.getElem?_take] at hj
  split at hj
  · exact hj
  · cases hj
end Go.Proofs.YtnckpnbecmmcpaaGreatDoor
