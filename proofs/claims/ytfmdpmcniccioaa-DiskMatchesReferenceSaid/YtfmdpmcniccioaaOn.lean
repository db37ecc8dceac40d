/- A disk with power, without a scheduled loss: what its calls do; a disk beside bytes of the caller's. -/
import Derived.Test.YtfmdpmcniccioaaReadZ
namespace Go.Proofs.Ytfmdpmcniccioaa
open Go.RowKit Go.Shelf Lib

structure OnD (n : Nat) (D : DiskD) : Prop where
  inv : Inv n D
  on : D.off = false
  left : D.left = 0
theorem on_new {n : Nat} (h : 1 ≤ n) (h2 : n ≤ 4194304) : OnD n (newD n) := ⟨Inv.new h h2, rfl, rfl⟩
theorem on_write {n : Nat} {D : DiskD} (h : OnD n D) (o : Nat) (s : ByteArray) (hf : o + s.size ≤ n) :
    writeE D o s = 0 ∧ OnD n (writeD D o s) ∧ (writeD D o s).vis = putB D.vis o (bts s) ∧ (writeD D o s).dur = D.dur ∧ (writeD D o s).pend = D.pend ++ [⟨o, s⟩] := by
  have e : writeE D o s = 0 := by
    unfold writeE
    rw [h.on, h.inv.dur]
    have : insideB n (o : Int) (s.size : Int) = true := inside_iff.2 ⟨by omega, by omega, by omega, by omega⟩
    rw [this]; rfl
  have e2 : writeD D o s = { D with pend := D.pend ++ [⟨o, s⟩], vis := putB D.vis o (bts s) } := by
    unfold writeD usedD
    rw [if_pos e]
    simp only [h.left, if_pos, Int.toNat_natCast]
  refine ⟨e, ⟨h.inv.write _ _, by rw [e2]; exact h.on, by rw [e2]; exact h.left⟩, by rw [e2], by rw [e2], by rw [e2]⟩
theorem on_sync {n : Nat} {D : DiskD} (h : OnD n D) : syncE D = 0 ∧ OnD n (syncD D) ∧ (syncD D).vis = D.vis ∧ (syncD D).dur = D.vis ∧ (syncD D).pend = [] := by
  have e : syncD D = { D with dur := D.vis, pend := [] } := by unfold syncD; rw [h.on]; rfl
  exact ⟨by unfold syncE; rw [h.on]; rfl, ⟨h.inv.sync, by rw [e]; exact h.on, by rw [e]; exact h.left⟩, by rw [e], by rw [e], by rw [e]⟩
def strOf (b : List UInt8) : ByteArray := ⟨b.toArray⟩
theorem on_read {n : Nat} {D : DiskD} (h : OnD n D) : readE D 0 n = 0 ∧ readS D 0 n = strOf D.vis := by
  have e : readE D 0 n = 0 := by
    unfold readE
    rw [h.on, h.inv.dur]
    have : insideB n (0 : Int) (n : Int) = true := inside_iff.2 ⟨by omega, by omega, by omega, by omega⟩
    rw [this]; rfl
  refine ⟨e, ?_⟩
  unfold readS strOf
  rw [if_pos e]
  congr 2
  simp
  exact List.take_of_length_le (Nat.le_of_eq h.inv.visLen)
theorem on_crash {n : Nat} {D : DiskD} (h : OnD n D) (kl : List Int) (torn : Int) : OnD n (crashD D kl torn) := ⟨h.inv.crash kl torn, rfl, rfl⟩
theorem conv_all {w : World} {g n : Nat} {b : List UInt8} (hg : Blk w g (bcs b).toArray 5) (hb : b.length = n) : (convert 40 9 (.slice (some ⟨g, 0, none⟩) n n)).run Try.prog w = .ok (.string (strOf b)) w := by
  have := conv_bytes (w := w) (c := n) hg (o := 0) (k := n) (by omega) ⟨g, 0, none⟩ (fun _ => rfl) ⟨_, _, rfl⟩
  rw [this]
  unfold subS strOf
  rw [List.drop_zero, List.take_of_length_le (by omega)]
section
variable {W : World} {B n : Nat} {D : DiskD} {F : Nat → Prop}
theorem write_F (h : OwnF W B n D F) (hF : ∀ k, W.heap.size ≤ k → F k) (hp : D.pend.length ≤ 1000000) (off : Int) (s : ByteArray) :
    Calls Try.prog 21 #[.pointer (some ⟨B, 0, none⟩), .int .i64 off, .string s] W fun e w' => e = .returned (.int .i64 (writeE D off s)) ∧ OwnF w' B n (writeD D off s) F ∧ Frm F W w' := by
  refine (write_f h hp off s).mono ?_
  rintro e w' ⟨h1, h2, h3⟩
  exact ⟨h1, h2.mono (fun k _ hk => hk.elim id (hF k)), h3⟩
end
/-- All blocks from base on, without one. -/
def Bes (base g : Nat) (k : Nat) : Prop := base ≤ k ∧ k ≠ g
theorem Frm.besBelow {base g : Nat} {W W' : World} (h : Frm (Bes base g) W W') (hb : base ≤ W.heap.size) : Below base W W' := h.below hb (fun _ h => h.1)
end Go.Proofs.Ytfmdpmcniccioaa
