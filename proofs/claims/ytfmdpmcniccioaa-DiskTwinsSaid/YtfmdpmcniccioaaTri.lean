/- Three disks that are apart. -/
import Derived.Test.YtfmdpmcniccioaaOn3
namespace Go.Proofs.Ytfmdpmcniccioaa
open Go.RowKit Go.Shelf Lib

/-- Three disks whose blocks are apart and within P. -/
def Tri (W : World) (P : Nat → Prop) (n B1 B2 B3 : Nat) (D1 D2 D3 : DiskD) : Prop :=
  ∃ F1 F2 F3 : Nat → Prop, (∀ k, F1 k → P k) ∧ (∀ k, F2 k → P k) ∧ (∀ k, F3 k → P k) ∧ (∀ k, F1 k → ¬ F2 k) ∧ (∀ k, F1 k → ¬ F3 k) ∧ (∀ k, F2 k → ¬ F3 k) ∧
    OwnF W B1 n D1 F1 ∧ OwnF W B2 n D2 F2 ∧ OwnF W B3 n D3 F3
section
variable {W W' : World} {P Q : Nat → Prop} {n B1 B2 B3 : Nat} {D1 D2 D3 : DiskD}
theorem Tri.swap12 (h : Tri W P n B1 B2 B3 D1 D2 D3) : Tri W P n B2 B1 B3 D2 D1 D3 := by
  obtain ⟨F1, F2, F3, p1, p2, p3, d12, d13, d23, o1, o2, o3⟩ := h
  exact ⟨F2, F1, F3, p2, p1, p3, fun k a b => d12 k b a, d23, d13, o2, o1, o3⟩
theorem Tri.swap13 (h : Tri W P n B1 B2 B3 D1 D2 D3) : Tri W P n B3 B2 B1 D3 D2 D1 := by
  obtain ⟨F1, F2, F3, p1, p2, p3, d12, d13, d23, o1, o2, o3⟩ := h
  exact ⟨F3, F2, F1, p3, p2, p1, fun k a b => d23 k b a, fun k a b => d13 k b a, fun k a b => d12 k b a, o3, o2, o1⟩
theorem Tri.mono (h : Tri W P n B1 B2 B3 D1 D2 D3) (hPQ : ∀ k, k < W.heap.size → P k → Q k) : Tri W Q n B1 B2 B3 D1 D2 D3 := by
  obtain ⟨F1, F2, F3, p1, p2, p3, d12, d13, d23, o1, o2, o3⟩ := h
  exact ⟨fun k => F1 k ∧ k < W.heap.size, fun k => F2 k ∧ k < W.heap.size, fun k => F3 k ∧ k < W.heap.size, fun k h => hPQ k h.2 (p1 k h.1), fun k h => hPQ k h.2 (p2 k h.1), fun k h => hPQ k h.2 (p3 k h.1),
    fun k a b => d12 k a.1 b.1, fun k a b => d13 k a.1 b.1, fun k a b => d23 k a.1 b.1, o1.mono (fun k hk h => ⟨h, hk⟩), o2.mono (fun k hk h => ⟨h, hk⟩), o3.mono (fun k hk h => ⟨h, hk⟩)⟩
theorem Tri.away (h : Tri W P n B1 B2 B3 D1 D2 D3) {x : Nat} {cs : Array Value} (hx : Blk W x cs 53) : Tri W (fun k => P k ∧ k ≠ x) n B1 B2 B3 D1 D2 D3 := by
  obtain ⟨F1, F2, F3, p1, p2, p3, d12, d13, d23, o1, o2, o3⟩ := h
  exact ⟨fun k => F1 k ∧ k ≠ x, fun k => F2 k ∧ k ≠ x, fun k => F3 k ∧ k ≠ x, fun k h => ⟨p1 k h.1, h.2⟩, fun k h => ⟨p2 k h.1, h.2⟩, fun k h => ⟨p3 k h.1, h.2⟩,
    fun k a b => d12 k a.1 b.1, fun k a b => d13 k a.1 b.1, fun k a b => d23 k a.1 b.1, o1.away hx (by decide) (by decide) (by decide), o2.away hx (by decide) (by decide) (by decide), o3.away hx (by decide) (by decide) (by decide)⟩
theorem Tri.below (h : Tri W P n B1 B2 B3 D1 D2 D3) (hb : Below W.heap.size W W') : Tri W' P n B1 B2 B3 D1 D2 D3 := by
  obtain ⟨F1, F2, F3, p1, p2, p3, d12, d13, d23, o1, o2, o3⟩ := h
  exact ⟨F1, F2, F3, p1, p2, p3, d12, d13, d23, o1.below hb, o2.below hb, o3.below hb⟩
theorem Tri.drew (h : Tri W P n B1 B2 B3 D1 D2 D3) : Tri W.drew P n B1 B2 B3 D1 D2 D3 := h.below ((Below.refl _ _).drew)
theorem Tri.o1 (h : Tri W P n B1 B2 B3 D1 D2 D3) : OwnF W B1 n D1 P := by
  obtain ⟨F1, F2, F3, p1, p2, p3, d12, d13, d23, o1, o2, o3⟩ := h
  exact o1.mono (fun k _ h => p1 k h)
theorem Tri.write1 (h : Tri W P n B1 B2 B3 D1 D2 D3) (hP : ∀ k, W.heap.size ≤ k → P k) (hp : D1.pend.length ≤ 1000000) (off : Int) (s : ByteArray) :
    Calls Try.prog 21 #[.pointer (some ⟨B1, 0, none⟩), .int .i64 off, .string s] W fun e w' => e = .returned (.int .i64 (writeE D1 off s)) ∧ Tri w' P n B1 B2 B3 (writeD D1 off s) D2 D3 ∧ Frm P W w' := by
  obtain ⟨F1, F2, F3, p1, p2, p3, d12, d13, d23, o1, o2, o3⟩ := h
  refine (write_f o1 hp off s).mono ?_
  rintro e w' ⟨rfl, q1, q2⟩
  refine ⟨rfl, ⟨fun k => F1 k ∨ W.heap.size ≤ k, fun k => F2 k ∧ k < W.heap.size, fun k => F3 k ∧ k < W.heap.size, ?_, fun k h => p2 k h.1, fun k h => p3 k h.1, ?_, ?_, fun k a b => d23 k a.1 b.1, q1, ?_, ?_⟩, q2.mono (fun k _ h => p1 k h)⟩
  · rintro k (h | h)
    · exact p1 k h
    · exact hP k h
  · rintro k (h | h) ⟨a, b⟩
    · exact d12 k h a
    · omega
  · rintro k (h | h) ⟨a, b⟩
    · exact d13 k h a
    · omega
  · exact (o2.mono (G := fun k => F2 k ∧ k < W.heap.size) (fun k hk h => ⟨h, hk⟩)).frm q2 (fun k _ h a => d12 k a h.1)
  · exact (o3.mono (G := fun k => F3 k ∧ k < W.heap.size) (fun k hk h => ⟨h, hk⟩)).frm q2 (fun k _ h a => d13 k a h.1)
theorem Tri.sync1 (h : Tri W P n B1 B2 B3 D1 D2 D3) :
    Calls Try.prog 23 #[.pointer (some ⟨B1, 0, none⟩)] W fun e w' => e = .returned (.int .i64 (syncE D1)) ∧ Tri w' P n B1 B2 B3 (syncD D1) D2 D3 ∧ Frm P W w' := by
  obtain ⟨F1, F2, F3, p1, p2, p3, d12, d13, d23, o1, o2, o3⟩ := h
  refine (sync_f o1).mono ?_
  rintro e w' ⟨rfl, q1, q2⟩
  exact ⟨rfl, ⟨F1, F2, F3, p1, p2, p3, d12, d13, d23, q1, o2.frm q2 (fun k _ h a => d12 k a h), o3.frm q2 (fun k _ h a => d13 k a h)⟩, q2.mono (fun k _ h => p1 k h)⟩
theorem Tri.crash1 (h : Tri W P n B1 B2 B3 D1 D2 D3) (torn : Int) :
    Calls Try.prog 25 #[.pointer (some ⟨B1, 0, none⟩), .slice none 0 0, .int .i64 torn] W fun e w' => e = .returned (.int .i64 0) ∧ Tri w' P n B1 B2 B3 (crashD D1 [] torn) D2 D3 ∧ Frm P W w' := by
  obtain ⟨F1, F2, F3, p1, p2, p3, d12, d13, d23, o1, o2, o3⟩ := h
  refine (crash_f o1 _ [] (ints_nil W) (by decide) torn).mono ?_
  rintro e w' ⟨rfl, q1, q2⟩
  exact ⟨rfl, ⟨F1, F2, F3, p1, p2, p3, d12, d13, d23, q1, o2.frm q2 (fun k _ h a => d12 k a h), o3.frm q2 (fun k _ h a => d13 k a h)⟩, q2.mono (fun k _ h => p1 k h)⟩
end
theorem Tri.new {b1 : Nat} {w2 w3 w4 : World} {n B1 B2 B3 : Nat} {D1 D2 D3 : DiskD} (h1 : Own b1 w2 B1 n D1) (h2 : Own w2.heap.size w3 B2 n D2) (h3 : Own w3.heap.size w4 B3 n D3) (hb : b1 ≤ w2.heap.size) (hb3 : Below w2.heap.size w2 w3) (hb4 : Below w3.heap.size w3 w4) :
    Tri w4 (fun k => b1 ≤ k) n B1 B2 B3 D1 D2 D3 := by
  have s3 := hb3.size
  refine ⟨fun k => b1 ≤ k ∧ k < w2.heap.size, fun k => w2.heap.size ≤ k ∧ k < w3.heap.size, fun k => w3.heap.size ≤ k, fun k h => h.1, fun k h => by have := h.1; omega, fun k h => by omega, fun k a b => by omega, fun k a b => by omega, fun k a b => by omega, ?_, ?_, h3⟩
  · exact ((OwnF.mono h1 (G := fun k => b1 ≤ k ∧ k < w2.heap.size) (fun k hk h => ⟨h, hk⟩)).below hb3).below (hb4)
  · exact (OwnF.mono h2 (G := fun k => w2.heap.size ≤ k ∧ k < w3.heap.size) (fun k hk h => ⟨h, hk⟩)).below hb4
end Go.Proofs.Ytfmdpmcniccioaa
