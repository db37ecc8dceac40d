/- A disk beside an own row of the caller's; a disk whose power is cut after some writes. -/
import Derived.Test.YtfmdpmcniccioaaOn2
namespace Go.Proofs.Ytfmdpmcniccioaa
open Go.RowKit Go.Shelf Lib

section
variable {W : World} {B n : Nat} {D : DiskD} {F : Nat → Prop}
/-- A disk's blocks differ from a block of another type. -/
theorem OwnF.away (h : OwnF W B n D F) {x : Nat} {cs : Array Value} {t : TypeId} (hx : Blk W x cs t) (h1 : t ≠ 65) (h2 : t ≠ 5) (h3 : t ≠ 69) : OwnF W B n D (fun k => F k ∧ k ≠ x) := by
  obtain ⟨bD, bV, vp, a, b, c⟩ := h
  refine ⟨bD, bV, vp, a, b, fun k hk => ⟨c k hk, ?_⟩⟩
  rcases hk with rfl | rfl | rfl | hk
  · exact a.box.ne hx h1.symm
  · exact a.dur.ne hx h2.symm
  · exact a.vis.ne hx h2.symm
  · obtain ⟨cur, hb, -⟩ := owned_block a.pen hk
    exact hb.ne hx h3.symm
theorem OwnF.awayRow (h : OwnF W B n D F) {base : Nat} {t : TypeId} {sz m : Nat} {v : Value} {xs : List Value} (hr : W.ownsRow base t sz v m xs) (h1 : t ≠ 65) (h2 : t ≠ 5) (h3 : t ≠ 69) : OwnF W B n D (fun k => F k ∧ v.ownBlock ≠ some k) := by
  cases hv : v.ownBlock with
  | none => exact h.mono (fun k _ hk => ⟨hk, by simp⟩)
  | some g =>
    obtain ⟨cur, hb, -⟩ := owned_block hr hv
    exact (h.away hb h1 h2 h3).mono (fun k _ hk => ⟨hk.1, fun e => hk.2 (Option.some.inj e).symm⟩)
end
/-- A disk whose power is cut after c writes, after k writes were tried. -/
structure CutI (n c k : Nat) (D : DiskD) : Prop where
  inv : Inv n D
  len : D.pend.length = min k c
  off : D.off = decide (c ≤ k)
  left : D.left = ((c - k : Nat) : Int)
theorem cutI_start {n c : Nat} (h : 1 ≤ n) (h2 : n ≤ 4194304) (hc : c < 1000) :
    cutE (newD n) ((c + 5 : Nat) : Int) = 0 ∧ cutE (cutD (newD n) ((c + 5 : Nat) : Int)) (c : Int) = 0 ∧ CutI n c 0 (cutD (cutD (newD n) ((c + 5 : Nat) : Int)) (c : Int)) ∧ (cutD (cutD (newD n) ((c + 5 : Nat) : Int)) (c : Int)).vis = List.replicate n 0 := by
  have e1 : cutE (newD n) ((c + 5 : Nat) : Int) = 0 := by
    unfold cutE newD
    simp
    omega
  have d1 : cutD (newD n) ((c + 5 : Nat) : Int) = { newD n with off := false, left := ((c + 5 : Nat) : Int) } := by
    unfold cutD
    rw [if_pos e1]
    congr 1
  have e2 : cutE (cutD (newD n) ((c + 5 : Nat) : Int)) (c : Int) = 0 := by
    rw [d1]; unfold cutE; simp
  have i2 : Inv n (cutD (cutD (newD n) ((c + 5 : Nat) : Int)) (c : Int)) := ((Inv.new h h2).cut _ (by omega)).cut _ (by omega)
  have d2 : cutD (cutD (newD n) ((c + 5 : Nat) : Int)) (c : Int) = { newD n with off := decide ((c : Int) = 0), left := (c : Int) } := by
    rw [cutD, if_pos e2, d1]
  refine ⟨e1, e2, ⟨i2, by rw [d2]; show 0 = _; omega, ?_, by rw [d2]; simp⟩, by rw [d2]; rfl⟩
  rw [d2]
  show decide _ = decide _
  simp
theorem CutI.yes {n c k : Nat} {D : DiskD} (h : CutI n c k D) (hk : k < c) (o : Nat) (s : ByteArray) (hf : o + s.size ≤ n) :
    writeE D o s = 0 ∧ CutI n c (k + 1) (writeD D o s) ∧ (writeD D o s).vis = putB D.vis o (bts s) := by
  have hoff : D.off = false := by rw [h.off]; simp; omega
  have e : writeE D o s = 0 := by
    unfold writeE
    rw [hoff, h.inv.dur]
    have : insideB n (o : Int) (s.size : Int) = true := inside_iff.2 ⟨by omega, by omega, by omega, by omega⟩
    rw [this]; rfl
  have hl : D.left ≠ 0 := by rw [h.left]; omega
  have e2 : writeD D o s = { D with pend := D.pend ++ [⟨o, s⟩], vis := putB D.vis o (bts s), left := D.left - 1, off := decide (D.left - 1 = 0) } := by
    unfold writeD usedD
    rw [if_pos e, if_neg hl]
    simp only [Int.toNat_natCast]
  refine ⟨e, ⟨h.inv.write _ _, ?_, ?_, ?_⟩, by rw [e2]⟩
  · rw [e2]; show (D.pend ++ _).length = _; rw [List.length_append, h.len]; simp; omega
  · rw [e2]; show decide _ = _; rw [h.left]; congr 1; exact propext ⟨fun _ => by omega, fun _ => by omega⟩
  · rw [e2]; show D.left - 1 = _; rw [h.left]; omega
theorem CutI.no {n c k : Nat} {D : DiskD} (h : CutI n c k D) (hk : c ≤ k) (o : Nat) (s : ByteArray) :
    writeE D o s = 331 ∧ writeD D o s = D ∧ CutI n c (k + 1) D := by
  have hoff : D.off = true := by rw [h.off]; simp; omega
  have e : writeE D o s = 331 := by unfold writeE; rw [hoff]; rfl
  refine ⟨e, by unfold writeD; rw [if_neg (by rw [e]; decide)], h.inv, by rw [h.len]; omega, ?_, by rw [h.left]; omega⟩
  rw [hoff]; symm; simp; omega
theorem CutI.stop {n c k : Nat} {D : DiskD} (h : CutI n c k D) (hk : c ≤ k) : D.pend.length = c ∧ readE D 0 0 = 331 ∧ syncE D = 331 ∧ syncD D = D ∧ cutE D 3 = 331 ∧ cutD D 3 = D := by
  have hoff : D.off = true := by rw [h.off]; simp; omega
  have e : cutE D 3 = 331 := by unfold cutE; rw [hoff]; rfl
  refine ⟨by rw [h.len]; omega, by unfold readE; rw [hoff]; rfl, by unfold syncE; rw [hoff]; rfl, by unfold syncD; rw [hoff]; rfl, e, by unfold cutD; rw [if_neg (by rw [e]; decide)]⟩
theorem CutI.go {n c k : Nat} {D : DiskD} (h : CutI n c k D) (hk : k < c) : syncE D = 0 := by
  have hoff : D.off = false := by rw [h.off]; simp; omega
  unfold syncE; rw [hoff]; rfl
theorem inv_crash {n : Nat} {D : DiskD} (h : Inv n D) (kl : List Int) (torn : Int) : OnD n (crashD D kl torn) := ⟨h.crash kl torn, rfl, rfl⟩
/-- A content beside the disk: base, without the block of it. -/
def Bes2 (base g : Nat) (v : Value) (k : Nat) : Prop := (base ≤ k ∧ k ≠ g) ∧ v.ownBlock ≠ some k
end Go.Proofs.Ytfmdpmcniccioaa
