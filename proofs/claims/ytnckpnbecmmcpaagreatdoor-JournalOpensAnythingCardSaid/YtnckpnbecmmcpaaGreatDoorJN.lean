/- A journal and its disk beside rows of strings of the caller. -/
import Derived.Test.YtnckpnbecmmcpaaGreatDoorJR
namespace Go.Proofs.YtnckpnbecmmcpaaGreatDoor
open Go.RowKit
abbrev RowL := List (Value × List ByteArray)
def RowsAt (W : World) (rs : RowL) : Prop := ∀ p ∈ rs, ∃ base, W.ownsRow base 9 1 p.1 p.2.length (p.2.map Value.string)
theorem RowsAt.nil (W : World) : RowsAt W [] := fun _ h => by cases h
theorem RowsAt.cons {W : World} {rs : RowL} {base : Nat} {v : Value} {l : List ByteArray} (h : W.ownsRow base 9 1 v l.length (l.map Value.string)) (hr : RowsAt W rs) : RowsAt W ((v, l) :: rs) := by
  intro p hp
  rcases List.mem_cons.1 hp with rfl | hp
  · exact ⟨base, h⟩
  · exact hr p hp
theorem RowsAt.below {W W' : World} {rs : RowL} (h : RowsAt W rs) (hb : Below W.heap.size W W') : RowsAt W' rs := fun p hp => by
  obtain ⟨b, h1⟩ := h p hp; exact ⟨b, owned_below h1 hb⟩
theorem RowsAt.strs {W : World} {rs : RowL} (h : RowsAt W rs) {p : Value × List ByteArray} (hp : p ∈ rs) : StrsAt W p.1 p.2 := by
  obtain ⟨b, h1⟩ := h p hp; exact strs_own h1
theorem RowsAt.sub {W : World} {rs ts : RowL} (h : RowsAt W rs) (hs : ∀ p ∈ ts, p ∈ rs) : RowsAt W ts := fun p hp => h p (hs p hp)
theorem RowsAt.nilRow {W : World} : W.ownsRow 0 9 1 (.slice none 0 0) ([] : List ByteArray).length (([] : List ByteArray).map Value.string) := World.ownsRow_nil _ _ _ _
def AwayR (F : Nat → Prop) (rs : RowL) (k : Nat) : Prop := F k ∧ ∀ p ∈ rs, p.1.ownBlock ≠ some k
theorem OwnF.awayRows {W : World} {B n : Nat} {D : DiskD} {F : Nat → Prop} (h : OwnF W B n D F) : ∀ {rs : RowL}, RowsAt W rs → OwnF W B n D (AwayR F rs)
  | [], _ => OwnF.mono h (fun k _ hk => ⟨hk, fun _ h => by cases h⟩)
  | p :: rs, hr => by
    have h1 := OwnF.awayRows h (rs := rs) (hr.sub fun q hq => List.mem_cons_of_mem _ hq)
    obtain ⟨b, ho⟩ := hr p List.mem_cons_self
    refine OwnF.mono (OwnF.awayRow h1 ho (by decide) (by decide) (by decide)) (fun k _ hk => ⟨hk.1.1, fun q hq => ?_⟩)
    rcases List.mem_cons.1 hq with rfl | hq
    · exact hk.2
    · exact hk.1.2 q hq
theorem RowsAt.frm {W W' : World} {rs : RowL} {G : Nat → Prop} (h : RowsAt W rs) (hf : Frm G W W') (hG : ∀ p ∈ rs, ∀ k cs, p.1.ownBlock = some k → Blk W k cs 9 → ¬ G k) : RowsAt W' rs := fun p hp => by
  obtain ⟨b, ho⟩ := h p hp
  refine ⟨b, owned_kept ho (fun g hg => ?_)⟩
  obtain ⟨cur, hc, -⟩ := owned_block ho hg
  exact hf.block g hc.lt (hG p hp g cur hg hc)
theorem RowsAt.fresh {W : World} {rs : RowL} (h : RowsAt W rs) {k : Nat} (hk : W.heap.size ≤ k) : ∀ p ∈ rs, p.1.ownBlock ≠ some k := fun p hp e => by
  obtain ⟨b, ho⟩ := h p hp
  obtain ⟨cur, hc, -⟩ := owned_block ho e
  have := hc.lt
  omega
theorem rs_lift {base : Nat} {W : World} {Jb B n : Nat} {J : JouD} {D D' : DiskD} {rs : RowL} (h : SysB base W Jb B n J D) (hr : RowsAt W rs) (hb : base ≤ W.heap.size) {g : Nat} {args : Array Value} {R : Ending → World → Prop}
    (hc : ∀ F : Nat → Prop, (∀ k, W.heap.size ≤ k → F k) → OwnF W B n D F → Calls Tryz.prog g args W fun e w' => R e w' ∧ OwnF w' B n D' F ∧ Frm F W w') :
    Calls Tryz.prog g args W fun e w' => R e w' ∧ SysB base w' Jb B n J D' ∧ RowsAt w' rs ∧ Below base W w' := by
  obtain ⟨vr, hbk, ho⟩ := h.jou.ex
  have hlt := hbk.lt
  have hA := (OwnF.awayRows ((OwnF.away h.own hbk (by decide) (by decide) (by decide)).awayRow ho (by decide) (by decide) (by decide)) hr)
  have hfr : ∀ k, W.heap.size ≤ k → vr.ownBlock ≠ some k := fun k hk e => by
    obtain ⟨cur, h1, -⟩ := owned_block ho e
    have := h1.lt; omega
  refine (hc _ (fun k hk => ⟨⟨⟨by omega, by omega⟩, hfr k hk⟩, hr.fresh hk⟩) hA).mono ?_
  · rintro e w' ⟨h1, h2, h3⟩
    refine ⟨h1, ⟨OwnF.mono h2 (fun k _ h => h.1.1.1), ⟨vr, hbk.frm h3 (fun h => h.1.1.2 rfl), owned_kept ho (fun q hq => ?_)⟩, h.jb⟩, hr.frm h3 (fun p hp k cs hk _ hh => hh.2 p hp hk), h3.below hb (fun k h => h.1.1.1)⟩
    obtain ⟨cur, h4, -⟩ := owned_block ho hq
    exact h3.block q h4.lt (fun h => h.1.2 hq)
theorem rs_cut {base : Nat} {W : World} {Jb B n : Nat} {J : JouD} {D : DiskD} {rs : RowL} (h : SysB base W Jb B n J D) (hr : RowsAt W rs) (hb : base ≤ W.heap.size) (k : Int) (hk : k ≤ 9223372036854775807) :
    Calls Tryz.prog 29 #[.pointer (some ⟨B, 0, none⟩), .int .i64 k] W fun e w' => e = .returned (.int .i64 (cutE D k)) ∧ SysB base w' Jb B n J (cutD D k) ∧ RowsAt w' rs ∧ Below base W w' :=
  rs_lift (R := fun e _ => e = .returned (.int .i64 (cutE D k))) h hr hb (fun _ _ ho => cut_f ho k hk)
theorem rs_crash {base : Nat} {W : World} {Jb B n : Nat} {J : JouD} {D : DiskD} {rs : RowL} (h : SysB base W Jb B n J D) (hr : RowsAt W rs) (hb : base ≤ W.heap.size) (vk : Value) (kl : List Int) (hk : IntsAt W vk kl) (hks : kl.length ≤ 1000) (torn : Int) :
    Calls Tryz.prog 30 #[.pointer (some ⟨B, 0, none⟩), vk, .int .i64 torn] W fun e w' => e = .returned (.int .i64 0) ∧ SysB base w' Jb B n J (crashD D kl torn) ∧ RowsAt w' rs ∧ Below base W w' :=
  rs_lift (R := fun e _ => e = .returned (.int .i64 0)) h hr hb (fun _ _ ho => crash_f ho vk kl hk hks torn)
theorem rs_write {base : Nat} {W : World} {Jb B n : Nat} {J : JouD} {D : DiskD} {rs : RowL} (h : SysB base W Jb B n J D) (hr : RowsAt W rs) (hb : base ≤ W.heap.size) (hp : D.pend.length ≤ 90000) (off : Int) (s : ByteArray) :
    Calls Tryz.prog 13 #[.pointer (some ⟨B, 0, none⟩), .int .i64 off, .string s] W fun e w' => e = .returned (.int .i64 (writeE D off s)) ∧ SysB base w' Jb B n J (writeD D off s) ∧ RowsAt w' rs ∧ Below base W w' :=
  rs_lift (R := fun e _ => e = .returned (.int .i64 (writeE D off s))) h hr hb (fun _ hF ho => write_F ho hF (by omega) off s)
/-- The disk is opened (again), beside a journal. -/
theorem rs_reopen {base : Nat} {W : World} {Jb B n : Nat} {J : JouD} {D : DiskD} {rs : RowL} (h : SysB base W Jb B n J D) (hr : RowsAt W rs) (hb : base ≤ W.heap.size) (hE : EnvJ W) (hp : D.pend.length ≤ 90000) (hn : n ≤ 100000) :
    Calls Tryz.prog 25 #[.pointer (some ⟨B, 0, none⟩)] W fun e w' => Opened w' W.heap.size B n D e ∧ SysB base w' Jb B n J (openD n D) ∧ RowsAt w' rs ∧ Below base W w' :=
  rs_lift (R := fun e w' => Opened w' W.heap.size B n D e) h hr hb (fun _ hF ho => open25 ho hF hp hn hE.1 hE.2)
theorem rs_append {base : Nat} {W : World} {Jb B n : Nat} {J : JouD} {D : DiskD} {rs : RowL} (h : SysB base W Jb B n J D) (hr : RowsAt W rs) (hb : base ≤ W.heap.size) (hE : EnvJ W) (hp : D.pend.length ≤ 90000) (hn : n ≤ 100000) (hfit : tapeN J.L ≤ n) (hJL : ∀ t ∈ J.L, t.size ≤ 65536)
    (vl : Value) (l : List ByteArray) (hl : StrsAt W vl l) (hll : l.length ≤ 1000) :
    Calls Tryz.prog 10 #[.pointer (some ⟨Jb, 0, none⟩), vl] W fun e w' => e = .returned (.int .i64 (appE n J D l)) ∧ SysB base w' Jb B n (appJ n J D l) (appD n J D l) ∧ RowsAt w' rs ∧ Below base W w' := by
  have hj := h.jb
  obtain ⟨vr, hbk, ho⟩ := h.jou.ex
  refine (append10 h.jou (OwnF.awayRows h.own hr) (fun k hk => ⟨by omega, hr.fresh hk⟩) hp hn hE.1 hfit hJL vl l hl hll).mono ?_
  rintro e w' ⟨h1, h2, h3, h4⟩
  refine ⟨h1, ⟨OwnF.mono h2 (fun k _ h => h.1), h3, hj⟩, hr.frm h4 (fun p hp k cs hk hc hh => ?_), h4.below hb (fun k h => by rcases h with h | h; exact h.1; omega)⟩
  rcases hh with hh | hh
  · exact hh.2 p hp hk
  · subst hh
    exact hc.ne hbk (by decide) rfl
end Go.Proofs.YtnckpnbecmmcpaaGreatDoor
