/- A disk in memory: its five cells, two contents, the row of pending writes; what an operation on it may touch. -/
import Derived.Test.YtfmdpmcniccioaaApp
namespace Go.Proofs.Ytfmdpmcniccioaa
open Go.RowKit

def wcs (l : List WrD) : List Value := l.flatMap fun w => [.int .i64 (w.off : Nat), .string w.s]
theorem wcs_len (l : List WrD) : (wcs l).length = l.length * 2 := by
  induction l with
  | nil => rfl
  | cons w l ih => simp only [wcs, List.flatMap_cons, List.length_append, List.length_cons, List.length_nil] at ih ⊢; omega
theorem wcs_app (l m : List WrD) : wcs (l ++ m) = wcs l ++ wcs m := by simp [wcs]
theorem wcs_get {l : List WrD} : ∀ {j : Nat} {w : WrD}, l[j]? = some w → (wcs l)[j * 2]? = some (.int .i64 (w.off : Nat)) ∧ (wcs l)[j * 2 + 1]? = some (.string w.s) := by
  induction l with
  | nil => intro j w h; simp at h
  | cons x l ih =>
    intro j w h
    cases j with
    | zero => simp at h; subst h; exact ⟨rfl, rfl⟩
    | succ j =>
      obtain ⟨h1, h2⟩ := ih (j := j) (w := w) (by simpa using h)
      have e1 : (j + 1) * 2 = j * 2 + 1 + 1 := by omega
      rw [e1]
      simp only [wcs, List.flatMap_cons, List.cons_append, List.nil_append, List.getElem?_cons_succ] at h1 h2 ⊢
      exact ⟨h1, h2⟩
/-- The cells of a disk. -/
def dkc (D : DiskD) (n bD bV : Nat) (vp : Value) : Array Value := #[.bool D.off, .int .i64 D.left, .slice (some ⟨bD, 0, none⟩) n n, .slice (some ⟨bV, 0, none⟩) n n, vp]
/-- A disk of size n at block B. -/
structure DiskAt (W : World) (B bD bV : Nat) (vp : Value) (n : Nat) (D : DiskD) : Prop where
  box : Blk W B (dkc D n bD bV vp) 65
  dur : Blk W bD (bcs D.dur).toArray 5
  vis : Blk W bV (bcs D.vis).toArray 5
  pen : W.ownsRow 0 69 2 vp D.pend.length (wcs D.pend)
  ne : bD ≠ bV
/-- The blocks of a disk. -/
def Foot (B bD bV : Nat) (vp : Value) (k : Nat) : Prop := k = B ∨ k = bD ∨ k = bV ∨ vp.ownBlock = some k
theorem DiskAt.lt {W : World} {B bD bV : Nat} {vp : Value} {n : Nat} {D : DiskD} (h : DiskAt W B bD bV vp n D) : ∀ k, Foot B bD bV vp k → k < W.heap.size := by
  rintro k (rfl | rfl | rfl | hk)
  · exact h.box.lt
  · exact h.dur.lt
  · exact h.vis.lt
  · exact (h.pen.lt k hk).2
theorem DiskAt.frm {F : Nat → Prop} {W W' : World} {B bD bV : Nat} {vp : Value} {n : Nat} {D : DiskD} (h : DiskAt W B bD bV vp n D) (hf : Frm F W W') (hF : ∀ k, Foot B bD bV vp k → ¬ F k) : DiskAt W' B bD bV vp n D :=
  ⟨h.box.frm hf (hF _ (.inl rfl)), h.dur.frm hf (hF _ (.inr (.inl rfl))), h.vis.frm hf (hF _ (.inr (.inr (.inl rfl)))), owned_kept h.pen (fun g hg => hf.block g (h.pen.lt g hg).2 (hF _ (.inr (.inr (.inr hg))))), h.ne⟩
theorem DiskAt.below {W W' : World} {B bD bV : Nat} {vp : Value} {n : Nat} {D : DiskD} (h : DiskAt W B bD bV vp n D) (hb : Below W.heap.size W W') : DiskAt W' B bD bV vp n D :=
  h.frm (F := fun _ => False) (Frm.of_below hb) (fun _ _ h => h)
/-- Blocks of a disk differ by what lies in them. -/
theorem DiskAt.neD {W : World} {B bD bV : Nat} {vp : Value} {n : Nat} {D : DiskD} (h : DiskAt W B bD bV vp n D) : B ≠ bD := h.box.ne h.dur (by decide)
theorem DiskAt.neV {W : World} {B bD bV : Nat} {vp : Value} {n : Nat} {D : DiskD} (h : DiskAt W B bD bV vp n D) : B ≠ bV := h.box.ne h.vis (by decide)
theorem DiskAt.neP {W : World} {B bD bV : Nat} {vp : Value} {n : Nat} {D : DiskD} (h : DiskAt W B bD bV vp n D) : ∀ g, vp.ownBlock = some g → g ≠ B ∧ g ≠ bD ∧ g ≠ bV := fun g hg => by
  obtain ⟨cur, hb, -⟩ := owned_block h.pen hg
  exact ⟨hb.ne h.box (by decide), hb.ne h.dur (by decide), hb.ne h.vis (by decide)⟩
end Go.Proofs.Ytfmdpmcniccioaa
