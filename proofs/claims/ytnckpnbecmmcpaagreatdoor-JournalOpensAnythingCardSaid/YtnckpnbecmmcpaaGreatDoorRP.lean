/- Plain: what a journal and its disk have after any row of calls. No Go program in sight. -/
import Derived.Test.YtnckpnbecmmcpaaGreatDoorJN
namespace Go.Proofs.YtnckpnbecmmcpaaGreatDoor
open Go.RowKit
/-- An append of owned strings to strings of the call's own. -/
theorem wpList_cat {ops : Array Oper} {rest : List Oper} {o : Oper} {a : Act} {w : World} {Q : Exit → Act → World → Prop}
    (hg : o.guard = none) (s x : Operand) (hop : o.op = Op.call { callee := Callee.builtin Builtin.append, args := #[s, x], argTypes := #[22, 22] })
    (base base2 : Nat) {v v2 : Value} {l l2 : List ByteArray} (hown : w.ownsRow base 9 1 v l.length (l.map Value.string)) (hown2 : w.ownsRow base2 9 1 v2 l2.length (l2.map Value.string)) (hs : a.eval s = v) (hx : a.eval x = v2) (hn : l.length + l2.length ≤ 10000000) (hbase : base ≤ w.heap.size)
    (h : ∀ v' w', w'.ownsRow base 9 1 v' (l ++ l2).length ((l ++ l2).map Value.string) → w.grownBy w' v.ownBlock → wpList Tryz.prog ops Q rest (a.put o.dst v') w') : wpList Tryz.prog ops Q (o :: rest) a w :=
  wpList_plain hg fun K hK => by
    have := step_cat (ops := ops) (K := K) (Q := Q) (E := True) hg s x hop base base2 hown hown2 hs hx hn hbase (fun v' w' h1 h2 => hK _ _ (h v' w' h1 h2))
    have hw : Region.wanted o (yielded ops a.tmps) = true := by simp [Region.wanted, hg]
    rw [if_pos hw] at this
    exact this
/-- Records that fit onto a disk of n bytes. -/
structure JOK (n : Nat) (L : List ByteArray) : Prop where
  fit : tapeN L ≤ n
  sz : ∀ t ∈ L, t.size ≤ 65536
theorem openE_read {n : Nat} {D : DiskD} (h : openE n D = 0) : readE D 0 n = 0 := by
  unfold openE at h
  split at h
  · exact absurd h (by assumption)
  · rename_i hc
    exact Classical.byContradiction hc
theorem openL_ok {n : Nat} {D : DiskD} (hI : Inv n D) (h : openE n D = 0) : JOK n (openL n D) := by
  have hr := openE_read h
  have hs := read_size hI hr
  unfold openE at h
  rw [if_neg (by rw [hr]; decide)] at h
  unfold openL
  cases hl : loadS (readS D 0 n) with
  | none => rw [hl] at h; cases h
  | some x =>
    obtain ⟨L, e⟩ := x
    obtain ⟨h1, h2, -, h4, -⟩ := load_facts hl
    exact ⟨by show tapeN L ≤ n; omega, h4⟩
theorem appJ_ok {n : Nat} {J : JouD} {D : DiskD} {l : List ByteArray} (h : JOK n J.L) (hl : ∀ t ∈ l, t.size ≤ 65536) : JOK n (appJ n J D l).L := by
  unfold appJ
  split
  · exact h
  split
  · exact h
  split
  · exact h
  split
  · rename_i h2 _ _
    have := outS_size J.L l
    refine ⟨?_, fun t ht => ?_⟩
    · show tapeN (J.L ++ l) ≤ n
      rw [tapeN_append]; omega
    · rcases List.mem_append.1 ht with ht | ht
      · exact h.sz t ht
      · exact hl t ht
  · exact h
theorem seq_pend : ∀ (fs : List DoD) (D : DiskD), (∀ f ∈ fs, ∀ E : DiskD, (f E).2.pend.length ≤ E.pend.length + 1) → (seqD fs D).2.pend.length ≤ D.pend.length + fs.length
  | [], D, _ => by unfold seqD; simp
  | f :: fs, D, h => by
    have h0 := h f (by simp) D
    have h1 := seq_pend fs (f D).2 (fun g hg => h g (by simp [hg]))
    unfold seqD
    split
    · simp only [List.length_cons]; omega
    · simp only [List.length_cons]; omega
theorem app_pend (n : Nat) (J : JouD) (D : DiskD) (l : List ByteArray) : (appD n J D l).pend.length ≤ D.pend.length + 4 := by
  unfold appD
  split
  · omega
  split
  · omega
  split
  · omega
  have := seq_pend (app4 J.L l) D (fun f hf E => by
    unfold app4 at hf
    simp only [List.mem_cons, List.mem_nil_iff, or_false] at hf
    rcases hf with rfl | rfl | rfl | rfl
    · exact pend_write' E _ _
    · have := pend_sync' E; show (syncD E).pend.length ≤ _; omega
    · exact pend_write' E _ _
    · have := pend_sync' E; show (syncD E).pend.length ≤ _; omega)
  exact this
theorem open_pend (n : Nat) (D : DiskD) : (openD n D).pend.length ≤ D.pend.length + 2 := by
  unfold openD
  split
  · omega
  split
  · omega
  split
  · omega
  exact seq_pend (trim2 n _) D (fun f hf E => by
    unfold trim2 at hf
    simp only [List.mem_cons, List.mem_nil_iff, or_false] at hf
    rcases hf with rfl | rfl
    · exact pend_write' E _ _
    · have := pend_sync' E; show (syncD E).pend.length ≤ _; omega)
theorem cut_pend (D : DiskD) (k : Int) : (cutD D k).pend.length ≤ D.pend.length := by
  unfold cutD
  split <;> exact Nat.le_refl _
/-- What is read of a disk with power is what is visible. -/
theorem read_on {n : Nat} {D : DiskD} (hI : Inv n D) (h : D.off = false) : readS D 0 n = strOf D.vis := by
  have e : readE D 0 n = 0 := by
    unfold readE
    rw [h, hI.dur]
    have : insideB n (0 : Int) (n : Int) = true := inside_iff.2 ⟨by omega, by omega, by omega, by omega⟩
    rw [this]; rfl
  unfold readS strOf
  rw [if_pos e]
  congr 2
  simp
  exact List.take_of_length_le (Nat.le_of_eq hI.visLen)
end Go.Proofs.YtnckpnbecmmcpaaGreatDoor
