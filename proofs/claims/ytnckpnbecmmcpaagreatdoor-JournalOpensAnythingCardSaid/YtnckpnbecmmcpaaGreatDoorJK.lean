/- A law's view of a journal and its disk. -/
import Derived.Test.YtnckpnbecmmcpaaGreatDoorJI
import Derived.Test.YtnckpnbecmmcpaaGreatDoorP4
namespace Go.Proofs.YtnckpnbecmmcpaaGreatDoor
open Go.RowKit
def EnvJ (W : World) : Prop := RoundT W ∧ ErrD W
theorem EnvJ.below {W W' : World} {D : Nat} (h : EnvJ W) (hD : 3 < D) (hb : Below D W W') : EnvJ W' := ⟨h.1.below hD hb, h.2.below (by omega) hb⟩
structure SysB (base : Nat) (W : World) (Jb B n : Nat) (J : JouD) (D : DiskD) : Prop where
  own : Own base W B n D
  jou : JouAt W 0 Jb B J
  jb : base ≤ Jb
theorem SysB.below {base : Nat} {W W' : World} {Jb B n : Nat} {J : JouD} {D : DiskD} (h : SysB base W Jb B n J D) (hb : Below W.heap.size W W') : SysB base W' Jb B n J D := ⟨OwnF.below h.own hb, h.jou.below hb, h.jb⟩
/-- A call on the disk, beside two journals. -/
theorem sys_lift2 {base : Nat} {W : World} {Jb K B n : Nat} {J JK : JouD} {D D' : DiskD} (h : SysB base W Jb B n J D) (hK : JouAt W 0 K B JK) (hb : base ≤ W.heap.size) {g : Nat} {args : Array Value} {R : Ending → World → Prop}
    (hc : ∀ F : Nat → Prop, (∀ k, W.heap.size ≤ k → F k) → OwnF W B n D F → Calls Tryz.prog g args W fun e w' => R e w' ∧ OwnF w' B n D' F ∧ Frm F W w') :
    Calls Tryz.prog g args W fun e w' => R e w' ∧ SysB base w' Jb B n J D' ∧ JouAt w' 0 K B JK ∧ Below base W w' := by
  obtain ⟨vr, hbk, ho⟩ := h.jou.ex
  obtain ⟨vk, hbk2, ho2⟩ := hK.ex
  have hlt := hbk.lt
  have hlt2 := hbk2.lt
  have hA := (OwnF.away h.own hbk (by decide) (by decide) (by decide)).awayRow ho (by decide) (by decide) (by decide)
  have hA2 := (OwnF.away hA hbk2 (by decide) (by decide) (by decide)).awayRow ho2 (by decide) (by decide) (by decide)
  refine (hc (fun k => (((base ≤ k ∧ k ≠ Jb) ∧ vr.ownBlock ≠ some k) ∧ k ≠ K) ∧ vk.ownBlock ≠ some k) (fun k hk => ⟨⟨⟨⟨by omega, by omega⟩, fun e => ?_⟩, by omega⟩, fun e => ?_⟩) hA2).mono ?_
  · obtain ⟨cur, h1, -⟩ := owned_block ho e
    have := h1.lt; omega
  · obtain ⟨cur, h1, -⟩ := owned_block ho2 e
    have := h1.lt; omega
  · rintro e w' ⟨h1, h2, h3⟩
    refine ⟨h1, ⟨OwnF.mono h2 (fun k _ h => h.1.1.1.1), ⟨vr, hbk.frm h3 (fun h => h.1.1.1.2 rfl), owned_kept ho (fun q hq => ?_)⟩, h.jb⟩, ⟨vk, hbk2.frm h3 (fun h => h.1.2 rfl), owned_kept ho2 (fun q hq => ?_)⟩, h3.below hb (fun k h => h.1.1.1.1)⟩
    · obtain ⟨cur, h4, -⟩ := owned_block ho hq
      exact h3.block q h4.lt (fun h => h.1.1.2 hq)
    · obtain ⟨cur, h4, -⟩ := owned_block ho2 hq
      exact h3.block q h4.lt (fun h => h.2 hq)
theorem sys_lift {base : Nat} {W : World} {Jb B n : Nat} {J : JouD} {D D' : DiskD} (h : SysB base W Jb B n J D) (hb : base ≤ W.heap.size) {g : Nat} {args : Array Value} {R : Ending → World → Prop}
    (hc : ∀ F : Nat → Prop, (∀ k, W.heap.size ≤ k → F k) → OwnF W B n D F → Calls Tryz.prog g args W fun e w' => R e w' ∧ OwnF w' B n D' F ∧ Frm F W w') :
    Calls Tryz.prog g args W fun e w' => R e w' ∧ SysB base w' Jb B n J D' ∧ Below base W w' :=
  (sys_lift2 h h.jou hb hc).mono fun _ _ ⟨h1, h2, _, h4⟩ => ⟨h1, h2, h4⟩
theorem sys_write {base : Nat} {W : World} {Jb K B n : Nat} {J JK : JouD} {D : DiskD} (h : SysB base W Jb B n J D) (hK : JouAt W 0 K B JK) (hb : base ≤ W.heap.size) (hp : D.pend.length ≤ 90000) (off : Int) (s : ByteArray) :
    Calls Tryz.prog 13 #[.pointer (some ⟨B, 0, none⟩), .int .i64 off, .string s] W fun e w' => e = .returned (.int .i64 (writeE D off s)) ∧ SysB base w' Jb B n J (writeD D off s) ∧ JouAt w' 0 K B JK ∧ Below base W w' :=
  sys_lift2 (R := fun e _ => e = .returned (.int .i64 (writeE D off s))) h hK hb (fun _ hF ho => write_F ho hF (by omega) off s)
theorem sys_cut {base : Nat} {W : World} {Jb B n : Nat} {J : JouD} {D : DiskD} (h : SysB base W Jb B n J D) (hb : base ≤ W.heap.size) (k : Int) (hk : k ≤ 9223372036854775807) :
    Calls Tryz.prog 29 #[.pointer (some ⟨B, 0, none⟩), .int .i64 k] W fun e w' => e = .returned (.int .i64 (cutE D k)) ∧ SysB base w' Jb B n J (cutD D k) ∧ Below base W w' :=
  sys_lift (R := fun e _ => e = .returned (.int .i64 (cutE D k))) h hb (fun _ _ ho => cut_f ho k hk)
theorem sys_crash {base : Nat} {W : World} {Jb B n : Nat} {J : JouD} {D : DiskD} (h : SysB base W Jb B n J D) (hb : base ≤ W.heap.size) (vk : Value) (kl : List Int) (hk : IntsAt W vk kl) (hks : kl.length ≤ 1000) (torn : Int) :
    Calls Tryz.prog 30 #[.pointer (some ⟨B, 0, none⟩), vk, .int .i64 torn] W fun e w' => e = .returned (.int .i64 0) ∧ SysB base w' Jb B n J (crashD D kl torn) ∧ Below base W w' :=
  sys_lift (R := fun e _ => e = .returned (.int .i64 0)) h hb (fun _ _ ho => crash_f ho vk kl hk hks torn)
/-- The disk is opened again, beside two journals. -/
theorem sys_reopen {base : Nat} {W : World} {Jb K B n : Nat} {J JK : JouD} {D : DiskD} (h : SysB base W Jb B n J D) (hK : JouAt W 0 K B JK) (hb : base ≤ W.heap.size) (hE : EnvJ W) (hp : D.pend.length ≤ 90000) (hn : n ≤ 100000) :
    Calls Tryz.prog 25 #[.pointer (some ⟨B, 0, none⟩)] W fun e w' => Opened w' W.heap.size B n D e ∧ SysB base w' Jb B n J (openD n D) ∧ JouAt w' 0 K B JK ∧ Below base W w' :=
  sys_lift2 (R := fun e w' => Opened w' W.heap.size B n D e) h hK hb (fun _ hF ho => open25 ho hF hp hn hE.1 hE.2)
theorem sys_append {base : Nat} {W : World} {Jb B n : Nat} {J : JouD} {D : DiskD} (h : SysB base W Jb B n J D) (hb : base ≤ W.heap.size) (hE : EnvJ W) (hp : D.pend.length ≤ 90000) (hn : n ≤ 100000) (hfit : tapeN J.L ≤ n) (hJL : ∀ t ∈ J.L, t.size ≤ 65536)
    (vl : Value) (l : List ByteArray) (hl : StrsAt W vl l) (hll : l.length ≤ 1000) :
    Calls Tryz.prog 10 #[.pointer (some ⟨Jb, 0, none⟩), vl] W fun e w' => e = .returned (.int .i64 (appE n J D l)) ∧ SysB base w' Jb B n (appJ n J D l) (appD n J D l) ∧ Below base W w' := by
  have hj := h.jb
  refine (append10 h.jou h.own (fun k hk => by omega) hp hn hE.1 hfit hJL vl l hl hll).mono ?_
  rintro e w' ⟨h1, h2, h3, h4⟩
  exact ⟨h1, ⟨h2, h3, hj⟩, h4.below hb (fun k h => by rcases h with h | h <;> omega)⟩
theorem sys_open {base : Nat} {W : World} {B n : Nat} {D : DiskD} (h : Own base W B n D) (hb : base ≤ W.heap.size) (hE : EnvJ W) (hp : D.pend.length ≤ 90000) (hn : n ≤ 100000) :
    Calls Tryz.prog 25 #[.pointer (some ⟨B, 0, none⟩)] W fun e w' => ((openE n D ≠ 0 ∧ e = .returned (.tuple #[.pointer none, .int .i64 (openE n D)])) ∨ (openE n D = 0 ∧ ∃ Jb, e = .returned (.tuple #[.pointer (some ⟨Jb, 0, none⟩), .int .i64 0]) ∧ SysB base w' Jb B n ⟨openL n D, false⟩ (openD n D))) ∧
      Own base w' B n (openD n D) ∧ Below base W w' := by
  refine (open25 h (fun k hk => by omega) hp hn hE.1 hE.2).mono ?_
  rintro e w' ⟨h1, h2, h3⟩
  refine ⟨?_, h2, h3.below hb (fun k h => h)⟩
  rcases h1 with h1 | ⟨h0, Jb, he, hJb, hj⟩
  · exact .inl h1
  · exact .inr ⟨h0, Jb, he, h2, hj.mono (Nat.zero_le _), by omega⟩
set_option maxRecDepth 100000 in
theorem open_nil (W : World) : Calls Tryz.prog 25 #[.pointer none] W fun e w' => e = .returned (.tuple #[.pointer none, .int .i64 1]) ∧ W = w' := by
  go_enter Tryz.func25, Tryz.ntmps25
  go_wp2
  go_ret2
  exact ⟨rfl, rfl⟩
theorem sys_records {base : Nat} {W : World} {Jb B n : Nat} {J : JouD} {D : DiskD} (h : SysB base W Jb B n J D) (hl : J.L.length ≤ 1000000) : Calls Tryz.prog 19 #[.pointer (some ⟨Jb, 0, none⟩)] W fun e w' => ∃ v, e = .returned v ∧ StrsAt w' v J.L ∧ SysB base w' Jb B n J D ∧ Below W.heap.size W w' := by
  refine (records19 h.jou hl).mono ?_
  rintro e w' ⟨v, rfl, ho, hb⟩
  exact ⟨v, rfl, strs_own ho, h.below hb, hb⟩
theorem sys_room {base : Nat} {W : World} {Jb B n : Nat} {J : JouD} {D : DiskD} (h : SysB base W Jb B n J D) (hn : tapeN J.L ≤ 1000000000) : Calls Tryz.prog 20 #[.pointer (some ⟨Jb, 0, none⟩)] W fun e w' => e = .returned (.int .i64 ((n : Int) - (tapeN J.L : Int))) ∧ SysB base w' Jb B n J D ∧ Below W.heap.size W w' := by
  refine (room20 h.jou h.own hn).mono ?_
  rintro e w' ⟨rfl, hb⟩
  exact ⟨rfl, h.below hb, hb⟩
end Go.Proofs.YtnckpnbecmmcpaaGreatDoor
