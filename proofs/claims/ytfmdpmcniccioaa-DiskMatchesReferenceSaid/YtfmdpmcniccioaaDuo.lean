/- A disk and a disk of the reference, apart from each other. -/
import Derived.Test.YtfmdpmcniccioaaRef5
namespace Go.Proofs.Ytfmdpmcniccioaa
open Go.RowKit Go.Shelf Lib

theorem RefF.away {W : World} {R n : Nat} {D : DiskD} {F : Nat → Prop} (h : RefF W R n D F) {x : Nat} {cs : Array Value} {t : TypeId} (hx : Blk W x cs t) (h1 : t ≠ 43) (h2 : t ≠ 5) (h3 : t ≠ 80) : RefF W R n D (fun k => F k ∧ k ≠ x) := by
  obtain ⟨vs, vl, a, b, c⟩ := h
  refine ⟨vs, vl, a, b, fun k hk => ⟨c k hk, ?_⟩⟩
  rcases hk with rfl | hk | hk
  · exact a.box.ne hx h1.symm
  · obtain ⟨cur, hb, -⟩ := owned_block a.sure hk
    exact hb.ne hx h2.symm
  · obtain ⟨cur, hb, -⟩ := owned_block a.pen hk
    exact hb.ne hx h3.symm
def Duo (W : World) (P : Nat → Prop) (n B R : Nat) (D E : DiskD) : Prop :=
  ∃ F1 F2 : Nat → Prop, (∀ k, F1 k → P k) ∧ (∀ k, F2 k → P k) ∧ (∀ k, F1 k → ¬ F2 k) ∧ OwnF W B n D F1 ∧ RefF W R n E F2
section
variable {W W' : World} {P Q : Nat → Prop} {n B R : Nat} {D E : DiskD}
theorem Duo.mono (h : Duo W P n B R D E) (hPQ : ∀ k, k < W.heap.size → P k → Q k) : Duo W Q n B R D E := by
  obtain ⟨F1, F2, p1, p2, d, o1, o2⟩ := h
  exact ⟨fun k => F1 k ∧ k < W.heap.size, fun k => F2 k ∧ k < W.heap.size, fun k h => hPQ k h.2 (p1 k h.1), fun k h => hPQ k h.2 (p2 k h.1), fun k a b => d k a.1 b.1, o1.mono (fun k hk h => ⟨h, hk⟩), o2.mono (fun k hk h => ⟨h, hk⟩)⟩
theorem Duo.away (h : Duo W P n B R D E) {x : Nat} {cs : Array Value} (hx : Blk W x cs 39) : Duo W (fun k => P k ∧ k ≠ x) n B R D E := by
  obtain ⟨F1, F2, p1, p2, d, o1, o2⟩ := h
  exact ⟨fun k => F1 k ∧ k ≠ x, fun k => F2 k ∧ k ≠ x, fun k h => ⟨p1 k h.1, h.2⟩, fun k h => ⟨p2 k h.1, h.2⟩, fun k a b => d k a.1 b.1, o1.away hx (by decide) (by decide) (by decide), o2.away hx (by decide) (by decide) (by decide)⟩
theorem Duo.below (h : Duo W P n B R D E) (hb : Below W.heap.size W W') : Duo W' P n B R D E := by
  obtain ⟨F1, F2, p1, p2, d, o1, o2⟩ := h
  exact ⟨F1, F2, p1, p2, d, o1.below hb, o2.below hb⟩
theorem Duo.drew (h : Duo W P n B R D E) : Duo W.drew P n B R D E := h.below ((Below.refl _ _).drew)
theorem Duo.o1 (h : Duo W P n B R D E) : OwnF W B n D P := by
  obtain ⟨F1, F2, p1, p2, d, o1, o2⟩ := h
  exact o1.mono (fun k _ h => p1 k h)
theorem Duo.r2 (h : Duo W P n B R D E) : RefF W R n E P := by
  obtain ⟨F1, F2, p1, p2, d, o1, o2⟩ := h
  exact o2.mono (fun k _ h => p2 k h)
theorem Duo.write_d (h : Duo W P n B R D E) (hP : ∀ k, W.heap.size ≤ k → P k) (hp : D.pend.length ≤ 1000000) (off : Int) (s : ByteArray) :
    Calls Try.prog 21 #[.pointer (some ⟨B, 0, none⟩), .int .i64 off, .string s] W fun e w' => e = .returned (.int .i64 (writeE D off s)) ∧ Duo w' P n B R (writeD D off s) E ∧ Frm P W w' := by
  obtain ⟨F1, F2, p1, p2, d, o1, o2⟩ := h
  refine (write_f o1 hp off s).mono ?_
  rintro e w' ⟨rfl, q1, q2⟩
  refine ⟨rfl, ⟨fun k => F1 k ∨ W.heap.size ≤ k, fun k => F2 k ∧ k < W.heap.size, ?_, fun k h => p2 k h.1, ?_, q1, ?_⟩, q2.mono (fun k _ h => p1 k h)⟩
  · rintro k (h | h)
    · exact p1 k h
    · exact hP k h
  · rintro k (h | h) ⟨a, b⟩
    · exact d k h a
    · omega
  · exact (o2.mono (G := fun k => F2 k ∧ k < W.heap.size) (fun k hk h => ⟨h, hk⟩)).frm q2 (fun k _ h a => d k a h.1)
theorem Duo.write_r (h : Duo W P n B R D E) (hP : ∀ k, W.heap.size ≤ k → P k) (hp : E.pend.length ≤ 1000000) (off : Int) (s : ByteArray) :
    Calls Try.prog 30 #[.pointer (some ⟨R, 0, none⟩), .int .i64 off, .string s] W fun e w' => e = .returned (.int .i64 (writeE E off s)) ∧ Duo w' P n B R D (writeD E off s) ∧ Frm P W w' := by
  obtain ⟨F1, F2, p1, p2, d, o1, o2⟩ := h
  refine (write_ref (o2.mono (G := fun k => F2 k ∨ W.heap.size ≤ k) (fun k _ h => .inl h)) (fun k hk => .inr hk) hp off s).mono ?_
  rintro e w' ⟨rfl, q1, q2⟩
  refine ⟨rfl, ⟨fun k => F1 k ∧ k < W.heap.size, fun k => F2 k ∨ W.heap.size ≤ k, fun k h => p1 k h.1, ?_, ?_, ?_, q1⟩, q2.mono (fun k hk h => by rcases h with h | h; exact p2 k h; omega)⟩
  · rintro k (h | h)
    · exact p2 k h
    · exact hP k h
  · rintro k ⟨a, b⟩ (h | h)
    · exact d k a h
    · omega
  · exact (o1.mono (G := fun k => F1 k ∧ k < W.heap.size) (fun k hk h => ⟨h, hk⟩)).frm q2 (fun k _ h a => by rcases a with a | a; exact d k h.1 a; omega)
theorem Duo.sync_d (h : Duo W P n B R D E) : Calls Try.prog 23 #[.pointer (some ⟨B, 0, none⟩)] W fun e w' => e = .returned (.int .i64 (syncE D)) ∧ Duo w' P n B R (syncD D) E ∧ Frm P W w' := by
  obtain ⟨F1, F2, p1, p2, d, o1, o2⟩ := h
  refine (sync_f o1).mono ?_
  rintro e w' ⟨rfl, q1, q2⟩
  exact ⟨rfl, ⟨F1, F2, p1, p2, d, q1, o2.frm q2 (fun k _ h a => d k a h)⟩, q2.mono (fun k _ h => p1 k h)⟩
theorem Duo.sync_r (h : Duo W P n B R D E) (hP : ∀ k, W.heap.size ≤ k → P k) (hp : E.pend.length ≤ 1000000) : Calls Try.prog 31 #[.pointer (some ⟨R, 0, none⟩)] W fun e w' => e = .returned (.int .i64 (syncE E)) ∧ Duo w' P n B R D (syncD E) ∧ Frm P W w' := by
  obtain ⟨F1, F2, p1, p2, d, o1, o2⟩ := h
  refine (sync_ref (o2.mono (G := fun k => F2 k ∨ W.heap.size ≤ k) (fun k _ h => .inl h)) (fun k hk => .inr hk) hp).mono ?_
  rintro e w' ⟨rfl, q1, q2⟩
  refine ⟨rfl, ⟨fun k => F1 k ∧ k < W.heap.size, fun k => F2 k ∨ W.heap.size ≤ k, fun k h => p1 k h.1, ?_, ?_, ?_, q1⟩, q2.mono (fun k hk h => by rcases h with h | h; exact p2 k h; omega)⟩
  · rintro k (h | h)
    · exact p2 k h
    · exact hP k h
  · rintro k ⟨a, b⟩ (h | h)
    · exact d k a h
    · omega
  · exact (o1.mono (G := fun k => F1 k ∧ k < W.heap.size) (fun k hk h => ⟨h, hk⟩)).frm q2 (fun k _ h a => by rcases a with a | a; exact d k h.1 a; omega)
theorem Duo.cut_d (h : Duo W P n B R D E) (k : Int) (hk : k ≤ 9223372036854775807) : Calls Try.prog 24 #[.pointer (some ⟨B, 0, none⟩), .int .i64 k] W fun e w' => e = .returned (.int .i64 (cutE D k)) ∧ Duo w' P n B R (cutD D k) E ∧ Frm P W w' := by
  obtain ⟨F1, F2, p1, p2, d, o1, o2⟩ := h
  refine (cut_f o1 k hk).mono ?_
  rintro e w' ⟨rfl, q1, q2⟩
  exact ⟨rfl, ⟨F1, F2, p1, p2, d, q1, o2.frm q2 (fun k _ h a => d k a h)⟩, q2.mono (fun k _ h => p1 k h)⟩
theorem Duo.cut_r (h : Duo W P n B R D E) (k : Int) (hk : k ≤ 9223372036854775807) : Calls Try.prog 32 #[.pointer (some ⟨R, 0, none⟩), .int .i64 k] W fun e w' => e = .returned (.int .i64 (cutE E k)) ∧ Duo w' P n B R D (cutD E k) ∧ Frm P W w' := by
  obtain ⟨F1, F2, p1, p2, d, o1, o2⟩ := h
  refine (cut_ref o2 k hk).mono ?_
  rintro e w' ⟨rfl, q1, q2⟩
  exact ⟨rfl, ⟨F1, F2, p1, p2, d, o1.frm q2 (fun k _ h a => d k h a), q1⟩, q2.mono (fun k _ h => p2 k h)⟩
theorem Duo.crash_d (h : Duo W P n B R D E) (vk : Value) (kl : List Int) (hk : IntsAt W vk kl) (hks : kl.length ≤ 1000) (torn : Int) : Calls Try.prog 25 #[.pointer (some ⟨B, 0, none⟩), vk, .int .i64 torn] W fun e w' => e = .returned (.int .i64 0) ∧ Duo w' P n B R (crashD D kl torn) E ∧ Frm P W w' := by
  obtain ⟨F1, F2, p1, p2, d, o1, o2⟩ := h
  refine (crash_f o1 vk kl hk hks torn).mono ?_
  rintro e w' ⟨rfl, q1, q2⟩
  exact ⟨rfl, ⟨F1, F2, p1, p2, d, q1, o2.frm q2 (fun k _ h a => d k a h)⟩, q2.mono (fun k _ h => p1 k h)⟩
theorem Duo.crash_r (h : Duo W P n B R D E) (hp : E.pend.length ≤ 1000000) (vk : Value) (kl : List Int) (hk : IntsAt W vk kl) (torn : Int) : Calls Try.prog 33 #[.pointer (some ⟨R, 0, none⟩), vk, .int .i64 torn] W fun e w' => e = .returned (.tuple #[]) ∧ Duo w' P n B R D (crashD E kl torn) ∧ Frm P W w' := by
  obtain ⟨F1, F2, p1, p2, d, o1, o2⟩ := h
  refine (crash_ref o2 hp vk kl hk torn).mono ?_
  rintro e w' ⟨rfl, q1, q2⟩
  exact ⟨rfl, ⟨F1, F2, p1, p2, d, o1.frm q2 (fun k _ h a => d k h a), q1⟩, q2.mono (fun k _ h => p2 k h)⟩
end
theorem Duo.new {b1 : Nat} {w2 w3 : World} {n B R : Nat} {D E : DiskD} {vs : Value} (h1 : Own b1 w2 B n D) (hb : b1 ≤ w2.heap.size) (h2 : RefAt w3 R vs (.slice none 0 0) n E) (hI : Inv n E) (hR : w2.heap.size ≤ R) (hv : ∀ g, vs.ownBlock = some g → w2.heap.size ≤ g) (hb3 : Below w2.heap.size w2 w3) :
    Duo w3 (fun k => b1 ≤ k) n B R D E := by
  refine ⟨fun k => b1 ≤ k ∧ k < w2.heap.size, fun k => w2.heap.size ≤ k, fun k h => h.1, fun k h => by omega, fun k a b => by omega, (OwnF.mono h1 (G := fun k => b1 ≤ k ∧ k < w2.heap.size) (fun k hk h => ⟨h, hk⟩)).below hb3, ⟨vs, _, h2, hI, ?_⟩⟩
  rintro k (rfl | hk | hk)
  · exact hR
  · exact hv k hk
  · cases hk
theorem pend_write (D : DiskD) (o : Int) (s : ByteArray) : (writeD D o s).pend.length ≤ D.pend.length + 1 := by
  unfold writeD usedD
  split
  · split <;> simp
  · omega
theorem pend_sync (D : DiskD) : (syncD D).pend.length ≤ D.pend.length := by
  unfold syncD
  split
  · exact Nat.le_refl _
  · exact Nat.zero_le _
theorem pend_cut (D : DiskD) (k : Int) : (cutD D k).pend.length ≤ D.pend.length := by
  unfold cutD
  split <;> exact Nat.le_refl _
theorem ints_take {w : World} {a : Option Addr} {len cap : Nat} {l : List Int} (h : IntsAt w (.slice a len cap) l) {m : Nat} (hm : m ≤ len) : IntsAt w (.slice a m cap) (l.take m) := by
  obtain ⟨a', cap', e, h1, h2, h3⟩ := h
  cases e
  have hl : (l.take m).length = m := by rw [List.length_take]; omega
  refine ⟨a, cap, by rw [hl], by omega, h2, fun h0 => ?_⟩
  obtain ⟨b, o, e2, h4⟩ := h3 (by omega)
  exact ⟨b, o, e2, fun j y hj => h4 j y (by rw [List.getElem?_take] at hj; split at hj; exact hj; cases hj)⟩
end Go.Proofs.Ytfmdpmcniccioaa
