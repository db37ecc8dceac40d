/- A disk as a whole: all its calls, over what it owns. -/
import Derived.Test.YtfmdpmcniccioaaD10
namespace Go.Proofs.Ytfmdpmcniccioaa
open Go.RowKit Go.Shelf Lib

/-- A disk of size n at block B in the state D; its blocks lie in F. -/
def OwnF (W : World) (B n : Nat) (D : DiskD) (F : Nat → Prop) : Prop := ∃ bD bV vp, DiskAt W B bD bV vp n D ∧ Inv n D ∧ ∀ k, Foot B bD bV vp k → F k
theorem OwnF.inv {W : World} {B n : Nat} {D : DiskD} {F : Nat → Prop} (h : OwnF W B n D F) : Inv n D := by obtain ⟨_, _, _, _, h, _⟩ := h; exact h
theorem OwnF.mono {W : World} {B n : Nat} {D : DiskD} {F G : Nat → Prop} (h : OwnF W B n D F) (hFG : ∀ k, k < W.heap.size → F k → G k) : OwnF W B n D G := by
  obtain ⟨a, b, c, h1, h2, h3⟩ := h; exact ⟨a, b, c, h1, h2, fun k hk => hFG k (h1.lt k hk) (h3 k hk)⟩
theorem OwnF.frm {W W' : World} {B n : Nat} {D : DiskD} {F G : Nat → Prop} (h : OwnF W B n D F) (hf : Frm G W W') (hFG : ∀ k, k < W.heap.size → F k → ¬ G k) : OwnF W' B n D F := by
  obtain ⟨a, b, c, h1, h2, h3⟩ := h; exact ⟨a, b, c, h1.frm hf (fun k hk => hFG k (h1.lt k hk) (h3 k hk)), h2, h3⟩
theorem OwnF.below {W W' : World} {B n : Nat} {D : DiskD} {F : Nat → Prop} (h : OwnF W B n D F) (hb : Below W.heap.size W W') : OwnF W' B n D F := h.frm (G := fun _ => False) (Frm.of_below hb) (fun _ _ _ h => h)
theorem OwnF.lt {W : World} {B n : Nat} {D : DiskD} {F : Nat → Prop} (h : OwnF W B n D F) : B < W.heap.size := by obtain ⟨_, _, _, h, _⟩ := h; exact h.box.lt
abbrev Own (base : Nat) (W : World) (B n : Nat) (D : DiskD) : Prop := OwnF W B n D (fun k => base ≤ k)
theorem Own.of {base : Nat} {W W' : World} {B n : Nat} {D : DiskD} (h : OwnF W' B n D (fun k => base ≤ k ∨ W.heap.size ≤ k)) (hb : base ≤ W.heap.size) : Own base W' B n D := h.mono (fun k _ hk => by rcases hk with hk | hk <;> omega)
theorem Frm.ownBelow {base : Nat} {W W' : World} (h : Frm (fun k => base ≤ k) W W') (hb : base ≤ W.heap.size) : Below base W W' := h.below hb (fun _ h => h)
section
variable {W : World} {B n : Nat} {D : DiskD} {F : Nat → Prop}
theorem size_f (h : OwnF W B n D F) : Calls Try.prog 16 #[.pointer (some ⟨B, 0, none⟩)] W fun e w' => e = .returned (.int .i64 (n : Nat)) ∧ W = w' := by obtain ⟨_, _, _, h, _⟩ := h; exact size_any h
theorem pending_f (h : OwnF W B n D F) : Calls Try.prog 17 #[.pointer (some ⟨B, 0, none⟩)] W fun e w' => e = .returned (.int .i64 (D.pend.length : Nat)) ∧ W = w' := by obtain ⟨_, _, _, h, _⟩ := h; exact pending_any h
theorem read_f (h : OwnF W B n D F) (off k : Int) : Calls Try.prog 14 #[.pointer (some ⟨B, 0, none⟩), .int .i64 off, .int .i64 k] W fun e w' => e = .returned (.tuple #[.string (readS D off k), .int .i64 (readE D off k)]) ∧ W = w' := by
  obtain ⟨_, _, _, h, hI, _⟩ := h; exact read_any h hI.dur hI.visLen hI.most off k
theorem cut_f (h : OwnF W B n D F) (k : Int) (hk : k ≤ 9223372036854775807) : Calls Try.prog 24 #[.pointer (some ⟨B, 0, none⟩), .int .i64 k] W fun e w' => e = .returned (.int .i64 (cutE D k)) ∧ OwnF w' B n (cutD D k) F ∧ Frm F W w' := by
  obtain ⟨bD, bV, vp, h, hI, hF⟩ := h
  refine (cut_any h k).mono ?_
  rintro e w' ⟨rfl, h1, h2⟩
  exact ⟨rfl, ⟨bD, bV, vp, h1, hI.cut k hk, hF⟩, h2.mono (fun i _ e => hF i (.inl e))⟩
theorem sync_f (h : OwnF W B n D F) : Calls Try.prog 23 #[.pointer (some ⟨B, 0, none⟩)] W fun e w' => e = .returned (.int .i64 (syncE D)) ∧ OwnF w' B n (syncD D) F ∧ Frm F W w' := by
  obtain ⟨bD, bV, vp, h, hI, hF⟩ := h
  refine (sync_any h hI.dur hI.visLen).mono ?_
  rintro e w' ⟨vp', rfl, h1, h2, h3⟩
  exact ⟨rfl, ⟨bD, bV, vp', h1, hI.sync, fun k hk => hF k (by rcases hk with hk | hk | hk | hk; exact .inl hk; exact .inr (.inl hk); exact .inr (.inr (.inl hk)); exact .inr (.inr (.inr (h2 ▸ hk))))⟩, h3.mono (fun i _ e => hF i e)⟩
theorem crash_f (h : OwnF W B n D F) (vk : Value) (kl : List Int) (hk : IntsAt W vk kl) (hks : kl.length ≤ 1000) (torn : Int) :
    Calls Try.prog 25 #[.pointer (some ⟨B, 0, none⟩), vk, .int .i64 torn] W fun e w' => e = .returned (.int .i64 0) ∧ OwnF w' B n (crashD D kl torn) F ∧ Frm F W w' := by
  obtain ⟨bD, bV, vp, h, hI, hF⟩ := h
  refine (crash_any h hI vk kl hk hks torn).mono ?_
  rintro e w' ⟨vp', rfl, h1, h2, h3⟩
  exact ⟨rfl, ⟨bD, bV, vp', h1, hI.crash kl torn, fun k hk => hF k (by rcases hk with hk | hk | hk | hk; exact .inl hk; exact .inr (.inl hk); exact .inr (.inr (.inl hk)); exact .inr (.inr (.inr (h2 ▸ hk))))⟩, h3.mono (fun i _ e => hF i e)⟩
theorem write_f (h : OwnF W B n D F) (hp : D.pend.length ≤ 1000000) (off : Int) (s : ByteArray) :
    Calls Try.prog 21 #[.pointer (some ⟨B, 0, none⟩), .int .i64 off, .string s] W fun e w' => e = .returned (.int .i64 (writeE D off s)) ∧ OwnF w' B n (writeD D off s) (fun k => F k ∨ W.heap.size ≤ k) ∧ Frm F W w' := by
  obtain ⟨bD, bV, vp, h, hI, hF⟩ := h
  by_cases he : writeE D off s = 0
  · refine (write_yes h hI hp off s he).mono ?_
    rintro e w' ⟨vp', rfl, h1, h2, h3⟩
    refine ⟨rfl, ⟨bD, bV, vp', h1, hI.write off s, fun k hk => ?_⟩, h3.mono (fun i _ e => hF i e)⟩
    rcases hk with hk | hk | hk | hk
    · exact .inl (hF k (.inl hk))
    · exact .inl (hF k (.inr (.inl hk)))
    · exact .inl (hF k (.inr (.inr (.inl hk))))
    · rcases h2 with h2 | ⟨g, hg, hs⟩
      · exact .inl (hF k (.inr (.inr (.inr (h2 ▸ hk)))))
      · rw [hg] at hk; cases hk; exact .inr hs
  · have hD : writeD D off s = D := by unfold writeD; rw [if_neg he]
    refine (write_no h hI.dur hI.most off s he).mono ?_
    rintro e w' ⟨rfl, rfl⟩
    rw [hD]
    exact ⟨rfl, ⟨bD, bV, vp, h, hI, fun k hk => .inl (hF k hk)⟩, Frm.refl _ _⟩
end
section
variable {base : Nat} {W : World} {B n : Nat} {D : DiskD}
theorem cut_own (h : Own base W B n D) (hb : base ≤ W.heap.size) (k : Int) (hk : k ≤ 9223372036854775807) : Calls Try.prog 24 #[.pointer (some ⟨B, 0, none⟩), .int .i64 k] W fun e w' => e = .returned (.int .i64 (cutE D k)) ∧ Own base w' B n (cutD D k) ∧ Below base W w' :=
  (cut_f h k hk).mono fun _ _ ⟨h1, h2, h3⟩ => ⟨h1, h2, h3.ownBelow hb⟩
theorem sync_own (h : Own base W B n D) (hb : base ≤ W.heap.size) : Calls Try.prog 23 #[.pointer (some ⟨B, 0, none⟩)] W fun e w' => e = .returned (.int .i64 (syncE D)) ∧ Own base w' B n (syncD D) ∧ Below base W w' :=
  (sync_f h).mono fun _ _ ⟨h1, h2, h3⟩ => ⟨h1, h2, h3.ownBelow hb⟩
theorem crash_own (h : Own base W B n D) (hb : base ≤ W.heap.size) (vk : Value) (kl : List Int) (hk : IntsAt W vk kl) (hks : kl.length ≤ 1000) (torn : Int) :
    Calls Try.prog 25 #[.pointer (some ⟨B, 0, none⟩), vk, .int .i64 torn] W fun e w' => e = .returned (.int .i64 0) ∧ Own base w' B n (crashD D kl torn) ∧ Below base W w' :=
  (crash_f h vk kl hk hks torn).mono fun _ _ ⟨h1, h2, h3⟩ => ⟨h1, h2, h3.ownBelow hb⟩
theorem write_own (h : Own base W B n D) (hb : base ≤ W.heap.size) (hp : D.pend.length ≤ 1000000) (off : Int) (s : ByteArray) :
    Calls Try.prog 21 #[.pointer (some ⟨B, 0, none⟩), .int .i64 off, .string s] W fun e w' => e = .returned (.int .i64 (writeE D off s)) ∧ Own base w' B n (writeD D off s) ∧ Below base W w' :=
  (write_f h hp off s).mono fun _ _ ⟨h1, h2, h3⟩ => ⟨h1, Own.of h2 hb, h3.ownBelow hb⟩
theorem new_own (n : Nat) (w : World) (h1 : 1 ≤ n) (h2 : n ≤ 4194304) : Calls Try.prog 13 #[.int .i64 (n : Nat)] w fun e w' => ∃ B, e = .returned (.tuple #[.pointer (some ⟨B, 0, none⟩), .int .i64 0]) ∧ Own w.heap.size w' B n (newD n) ∧ Below w.heap.size w w' := by
  refine (new_yes n w h1 h2).mono ?_
  rintro e w' ⟨B, bD, bV, rfl, h, hB, hd, hv, hbl⟩
  refine ⟨B, rfl, ⟨bD, bV, _, h, Inv.new h1 h2, ?_⟩, hbl⟩
  rintro k (rfl | rfl | rfl | hk)
  · exact hB
  · exact hd
  · exact hv
  · cases hk
end
end Go.Proofs.Ytfmdpmcniccioaa
