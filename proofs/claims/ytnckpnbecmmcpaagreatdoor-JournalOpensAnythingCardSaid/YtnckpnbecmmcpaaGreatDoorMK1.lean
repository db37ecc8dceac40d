/- Texts KGen, KPlain, KCopy, KApp, KDk, KD1, KD2, KD3, KD4, KD5 in one. -/
import Derived.Test.YtnckpnbecmmcpaaGreatDoorKit
import Derived.Test.YtnckpnbecmmcpaaGreatDoorRead
import Derived.Laws.OwnMore
import Derived.Laws.CopyRow
import Derived.Laws.Rows
import Derived.Below
import Derived.Laws.CopyOwn
import Derived.Laws.AppendOwnNone
import Derived.Test.YtnckpnbecmmcpaaGreatDoorProg
import Derived.Outline
import Derived.BigQuiet
import Derived.Deep.QuietTactic
import Derived.IntWalk
import Derived.Deep.RegionLaw
import Derived.Deep.RegionHeld3
import Derived.RegionTactic
import Derived.BigRegion
import Derived.Laws.MakeOwn
import Derived.StillTailTactics
section
/- Laws over any program: a block of cells as a whole; rows of the call's own; what an operation may touch. -/
namespace Go.Proofs.YtnckpnbecmmcpaaGreatDoor
open Go.RowKit

def Blk (W : World) (B : Nat) (cs : Array Value) (t : TypeId) : Prop := W.heap[B]? = some (.cells cs t (0, 0))
theorem Blk.lt {W : World} {B : Nat} {cs : Array Value} {t : TypeId} (h : Blk W B cs t) : B < W.heap.size := (Array.getElem?_eq_some_iff.1 h).1
theorem Blk.cell {W : World} {B : Nat} {cs : Array Value} {t : TypeId} (h : Blk W B cs t) (i : Nat) : W.cell? ⟨B, i, none⟩ = cs[i]? := by simp [World.cell?, show W.heap[B]? = _ from h]
theorem Blk.frozen {W : World} {B : Nat} {cs : Array Value} {t : TypeId} (h : Blk W B cs t) (i : Nat) : W.frozen? ⟨B, i, none⟩ = false := by simp [World.frozen?, show W.heap[B]? = _ from h]
theorem Blk.below {W W' : World} {D B : Nat} {cs : Array Value} {t : TypeId} (h : Blk W B cs t) (hb : Below D W W') (hD : B < D) : Blk W' B cs t := (hb.block B hD).trans h
theorem Blk.new (W : World) (cs : Array Value) (t : TypeId) : Blk (W.alloc (.cells cs t)) W.heap.size cs t := heap_alloc_new W _
theorem Blk.newAt (W : World) (cs : Array Value) (t : TypeId) {n : Nat} (h : n = W.heap.size) : Blk (W.alloc (.cells cs t)) n cs t := by rw [h]; exact Blk.new W cs t
theorem Blk.alloc {W : World} {B : Nat} {cs : Array Value} {t : TypeId} (h : Blk W B cs t) (o : Obj) : Blk (W.alloc o) B cs t := (Below.heap_alloc W o B h.lt).trans h
theorem Blk.set {W : World} {B : Nat} {cs : Array Value} {t : TypeId} (h : Blk W B cs t) (i : Nat) (v : Value) : Blk (W.setCell ⟨B, i, none⟩ v) B (cs.setIfInBounds i v) t := heap_setCell_same W B i cs t v h
theorem Blk.other {W : World} {B : Nat} {cs : Array Value} {t : TypeId} (h : Blk W B cs t) {a : Addr} (v : Value) (ha : B ≠ a.block) : Blk (W.setCell a v) B cs t := (heap_setCell_other W a B v ha).trans h
theorem Blk.row {W : World} {B : Nat} {cs : Array Value} {t : TypeId} (h : Blk W B cs t) (ds : Array Value) : Blk (W.setRow B ds) B ds t := setRow_heap W B cs ds t (0, 0) h
theorem Blk.rowOther {W : World} {B : Nat} {cs : Array Value} {t : TypeId} (h : Blk W B cs t) {g : Nat} (ds : Array Value) (hg : B ≠ g) : Blk (W.setRow g ds) B cs t := (setRow_other W g B ds hg).trans h
theorem Blk.ne {W : World} {A B : Nat} {cs ds : Array Value} {s t : TypeId} (h : Blk W A cs s) (k : Blk W B ds t) (hst : s ≠ t) : A ≠ B := fun e => by
  subst e
  have := (show W.heap[A]? = _ from h).symm.trans k
  simp at this; exact hst this.2
theorem Blk.uniq {W : World} {A : Nat} {cs ds : Array Value} {s t : TypeId} (h : Blk W A cs s) (k : Blk W A ds t) : cs = ds := by
  have := (show W.heap[A]? = _ from h).symm.trans k
  simp at this; exact this.1
theorem owned_len {B : Nat} {e : TypeId} {k : Nat} {v : Value} {n : Nat} {xs : List Value} {w : World} (h : w.ownsRow B e k v n xs) : ∃ (a : Option Addr) (cap : Nat), v = .slice a n cap ∧ n ≤ cap ∧ cap ≤ maxLen := by
  rcases h.2 with ⟨rfl, hn⟩ | ⟨g, cap, cur, rfl, hb, hg, h1, h2, -⟩
  · exact ⟨none, 0, by rw [hn], by omega, by unfold maxLen; omega⟩
  · exact ⟨_, cap, rfl, h1, h2⟩
theorem owned_below {B : Nat} {e : TypeId} {k : Nat} {v : Value} {n : Nat} {xs : List Value} {w w' : World} (h : w.ownsRow B e k v n xs) (hb : Below w.heap.size w w') : w'.ownsRow B e k v n xs :=
  h.kept (row := none) ⟨hb.os, hb.tape, hb.output, hb.size, fun k hk _ => hb.block k hk⟩ (by cases v.ownBlock <;> simp)
/-- The block of an own row. -/
theorem owned_block {W : World} {base e k n : Nat} {v : Value} {xs : List Value} (h : W.ownsRow base e k v n xs) {g : Nat} (hg : v.ownBlock = some g) : ∃ cur, Blk W g cur e ∧ base ≤ g := by
  rcases h.2 with ⟨rfl, -⟩ | ⟨g', cap, cur, rfl, hb, hgg, -⟩
  · cases hg
  · obtain rfl : g' = g := Option.some.inj hg
    exact ⟨cur, hgg, hb⟩
theorem owned_kept {W W' : World} {base e k n : Nat} {v : Value} {xs : List Value} (h : W.ownsRow base e k v n xs) (hb : ∀ g, v.ownBlock = some g → W'.heap[g]? = W.heap[g]?) : W'.ownsRow base e k v n xs := by
  refine ⟨h.1, ?_⟩
  rcases h.2 with hn | ⟨g, cap, cur, rfl, h1, h2, h3⟩
  · exact .inl hn
  · exact .inr ⟨g, cap, cur, rfl, h1, by rw [hb g rfl]; exact h2, h3⟩
theorem ownsRow_base {W : World} {base base' e k n : Nat} {v : Value} {xs : List Value} (h : W.ownsRow base e k v n xs) (hb : base' ≤ base) : W.ownsRow base' e k v n xs := by
  refine ⟨h.1, ?_⟩
  rcases h.2 with hn | ⟨g, cap, cur, e, h1, h2⟩
  · exact .inl hn
  · exact .inr ⟨g, cap, cur, e, Nat.le_trans hb h1, h2⟩

/-- What lies outside F is as it was; the streams too. -/
structure Frm (F : Nat → Prop) (W W' : World) : Prop where
  os : W'.os = W.os
  tape : W'.tape = W.tape
  output : W'.output = W.output
  size : W.heap.size ≤ W'.heap.size
  block : ∀ k, k < W.heap.size → ¬ F k → W'.heap[k]? = W.heap[k]?
theorem Frm.refl (F : Nat → Prop) (W : World) : Frm F W W := ⟨rfl, rfl, rfl, Nat.le_refl _, fun _ _ _ => rfl⟩
theorem Frm.mono {F G : Nat → Prop} {W W' : World} (h : Frm F W W') (hFG : ∀ k, k < W.heap.size → F k → G k) : Frm G W W' :=
  ⟨h.os, h.tape, h.output, h.size, fun k hk hn => h.block k hk (fun hf => hn (hFG k hk hf))⟩
theorem Frm.trans {F G : Nat → Prop} {a b c : World} (h : Frm F a b) (k : Frm G b c) (hG : ∀ i, i < a.heap.size → G i → F i) : Frm F a c :=
  ⟨k.os.trans h.os, k.tape.trans h.tape, k.output.trans h.output, Nat.le_trans h.size k.size, fun i hi hn => (k.block i (Nat.lt_of_lt_of_le hi h.size) (fun hg => hn (hG i hi hg))).trans (h.block i hi hn)⟩
theorem Frm.of_below {F : Nat → Prop} {W W' : World} (h : Below W.heap.size W W') : Frm F W W' := ⟨h.os, h.tape, h.output, h.size, fun k hk _ => h.block k hk⟩
theorem Frm.below {F : Nat → Prop} {W W' : World} (h : Frm F W W') {B : Nat} (hB : B ≤ W.heap.size) (hF : ∀ k, F k → B ≤ k) : Below B W W' :=
  ⟨h.os, h.tape, h.output, h.size, fun k hk => h.block k (by omega) (fun hf => by have := hF k hf; omega)⟩
theorem Frm.alloc {F : Nat → Prop} {a w : World} (h : Frm F a w) (o : Obj) : Frm F a (w.alloc o) :=
  h.trans (G := F) (Frm.of_below ((Below.refl _ _).alloc (Nat.le_refl _) o)) (fun _ _ h => h)
theorem Frm.drew {F : Nat → Prop} {a w : World} (h : Frm F a w) : Frm F a w.drew := ⟨h.os, h.tape, h.output, h.size, h.block⟩
theorem Frm.setCell {F : Nat → Prop} {a w : World} (h : Frm F a w) {b o : Nat} (hb : b < a.heap.size → F b) (u : Value) : Frm F a (w.setCell ⟨b, o, none⟩ u) :=
  h.trans (G := fun k => k = b) ⟨rfl, rfl, rfl, by simp [World.setCell], fun k _ hk => Below.heap_setCell _ _ _ _ hk⟩ (fun i hi e => by subst e; exact hb hi)
theorem Frm.setRow {F : Nat → Prop} {a w : World} (h : Frm F a w) {b : Nat} (hb : b < a.heap.size → F b) (cs : Array Value) : Frm F a (w.setRow b cs) :=
  h.trans (G := fun k => k = b) ⟨rfl, rfl, rfl, by simp, fun k _ hk => setRow_other _ _ _ _ hk⟩ (fun i hi e => by subst e; exact hb hi)
theorem Frm.grown {F : Nat → Prop} {a w w' : World} {row : Option Nat} (h : Frm F a w) (hg : w.grownBy w' row) (hr : ∀ k, row = some k → k < a.heap.size → F k) : Frm F a w' :=
  h.trans (G := fun k => row = some k) ⟨hg.os, hg.tape, hg.output, hg.size, fun k hk hn => hg.block k hk (fun e => hn e.symm)⟩ (fun i hi e => hr i e hi)
theorem Blk.frm {F : Nat → Prop} {W W' : World} {B : Nat} {cs : Array Value} {t : TypeId} (h : Blk W B cs t) (hf : Frm F W W') (hB : ¬ F B) : Blk W' B cs t := (hf.block B h.lt hB).trans h

/-! ### copy: from a string, and from a slice; clear -/
section
variable {P : Program}
def bcs (l : List UInt8) : List Value := l.map fun b => .int .u8 (b.toNat : Int)
theorem bcs_len (l : List UInt8) : (bcs l).length = l.length := by simp [bcs]
theorem bcs_one (l : List UInt8) : ∀ v ∈ bcs l, v.oneCell' = true := by
  intro v hv; simp only [bcs, List.mem_map] at hv; obtain ⟨b, -, rfl⟩ := hv; rfl
theorem bcs_app (l m : List UInt8) : bcs (l ++ m) = bcs l ++ bcs m := by simp [bcs]
theorem bcs_take (l : List UInt8) (n : Nat) : bcs (l.take n) = (bcs l).take n := by simp [bcs, List.map_take]
theorem bcs_drop (l : List UInt8) (n : Nat) : bcs (l.drop n) = (bcs l).drop n := by simp [bcs, List.map_drop]
end
end Go.Proofs.YtnckpnbecmmcpaaGreatDoor
end
section
/- Plain mathematics of chapter 29: a disk with pending writes. No Go program in sight. -/
namespace Go.Proofs.YtnckpnbecmmcpaaGreatDoor

/-- A content into which a string has been written at a place. -/
def putB (b : List UInt8) (off : Nat) (s : List UInt8) : List UInt8 := b.take off ++ s ++ b.drop (off + s.length)
theorem putB_len {b : List UInt8} {off : Nat} {s : List UInt8} (h : off + s.length ≤ b.length) : (putB b off s).length = b.length := by
  unfold putB; simp; omega
theorem putB_get {b : List UInt8} {off : Nat} {s : List UInt8} (h : off + s.length ≤ b.length) (i : Nat) (hi : i < b.length) :
    (putB b off s)[i]? = if off ≤ i ∧ i < off + s.length then s[i - off]? else b[i]? := by
  unfold putB
  by_cases h1 : i < off
  · rw [if_neg (by omega), List.append_assoc, List.getElem?_append_left (by simp; omega), List.getElem?_take, if_pos h1]
  · by_cases h2 : i < off + s.length
    · rw [if_pos ⟨by omega, h2⟩, List.append_assoc, List.getElem?_append_right (by simp; omega), List.getElem?_append_left (by simp; omega)]
      congr 1; simp; omega
    · rw [if_neg (by omega), List.getElem?_append_right (by simp; omega), List.getElem?_drop]
      congr 1; simp; omega
/-- A pending write. -/
structure WrD where
  off : Nat
  s : ByteArray
structure DiskD where
  off : Bool
  left : Int
  dur : List UInt8
  vis : List UInt8
  pend : List WrD
abbrev bts (s : ByteArray) : List UInt8 := s.data.toList
theorem bts_len (s : ByteArray) : (bts s).length = s.size := rfl
def ontoW (b : List UInt8) (w : WrD) : List UInt8 := putB b w.off (bts w.s)
/-- The first k bytes of a string. -/
def cutS (s : ByteArray) (k : Nat) : ByteArray := s.extract 0 k
theorem cutS_all (s : ByteArray) : cutS s s.size = s := by
  unfold cutS; apply ByteArray.ext; simp
def insideB (n : Nat) (off len : Int) : Bool := decide (0 ≤ off) && decide (0 ≤ len) && decide (off ≤ n) && decide (len ≤ n - off)
/-- A write has been counted. -/
def usedD (D : DiskD) : DiskD := if D.left = 0 then D else { D with left := D.left - 1, off := decide (D.left - 1 = 0) }
def writeE (D : DiskD) (off : Int) (s : ByteArray) : Int := if D.off then 331 else if insideB D.dur.length off s.size then 0 else 330
def writeD (D : DiskD) (off : Int) (s : ByteArray) : DiskD :=
  if writeE D off s = 0 then usedD { D with pend := D.pend ++ [⟨off.toNat, s⟩], vis := putB D.vis off.toNat (bts s) } else D
def syncE (D : DiskD) : Int := if D.off then 331 else 0
def syncD (D : DiskD) : DiskD := if D.off then D else { D with dur := D.vis, pend := [] }
def readE (D : DiskD) (off n : Int) : Int := if D.off then 331 else if insideB D.dur.length off n then 0 else 330
def readS (D : DiskD) (off n : Int) : ByteArray := if readE D off n = 0 then ⟨((D.vis.drop off.toNat).take n.toNat).toArray⟩ else ⟨#[]⟩
def cutE (D : DiskD) (n : Int) : Int := if D.off then 331 else if n < 0 then 2 else 0
def cutD (D : DiskD) (n : Int) : DiskD := if cutE D n = 0 then { D with off := decide (n = 0), left := n } else D
/-- The pending writes that survive. -/
def keptI (n : Nat) (keep : List Int) : List Nat := (List.range n).filter fun i => decide ((i : Int) ∈ keep)
def tornW (torn : Int) (w : WrD) : WrD := if 0 ≤ torn then { w with s := cutS w.s (min torn.toNat w.s.size) } else w
def lastTorn (torn : Int) : List WrD → List WrD
  | [] => []
  | [w] => [tornW torn w]
  | w :: x :: l => w :: lastTorn torn (x :: l)
def dW : WrD := ⟨0, ⟨#[]⟩⟩
def keptW (D : DiskD) (keep : List Int) : List WrD := (keptI D.pend.length keep).map fun i => D.pend.getD i dW
def crashB (D : DiskD) (keep : List Int) (torn : Int) : List UInt8 := (lastTorn torn (keptW D keep)).foldl ontoW D.dur
def crashD (D : DiskD) (keep : List Int) (torn : Int) : DiskD := { off := false, left := 0, dur := crashB D keep torn, vis := crashB D keep torn, pend := [] }
def newD (n : Nat) : DiskD := { off := false, left := 0, dur := List.replicate n 0, vis := List.replicate n 0, pend := [] }

/-- What holds of every disk. -/
structure Inv (n : Nat) (D : DiskD) : Prop where
  pos : 1 ≤ n
  most : n ≤ 4194304
  dur : D.dur.length = n
  vis : D.vis = D.pend.foldl ontoW D.dur
  fit : ∀ w ∈ D.pend, w.off + w.s.size ≤ n
  left : 0 ≤ D.left
  leftM : D.left ≤ 9223372036854775807
theorem foldl_len {n : Nat} : ∀ (l : List WrD) (b : List UInt8), b.length = n → (∀ w ∈ l, w.off + w.s.size ≤ n) → (l.foldl ontoW b).length = n := by
  intro l
  induction l with
  | nil => intro b h _; exact h
  | cons w l ih =>
    intro b h hw
    refine ih _ ?_ (fun x hx => hw x (by simp [hx]))
    unfold ontoW
    rw [putB_len (by have := hw w (by simp); rw [bts_len]; omega), h]
theorem Inv.visLen {n : Nat} {D : DiskD} (h : Inv n D) : D.vis.length = n := by rw [h.vis]; exact foldl_len _ _ h.dur h.fit
theorem inside_iff {n : Nat} {off len : Int} : insideB n off len = true ↔ 0 ≤ off ∧ 0 ≤ len ∧ off ≤ n ∧ len ≤ n - off := by
  unfold insideB; simp [and_assoc]
theorem Inv.used {n : Nat} {D : DiskD} (h : Inv n D) : Inv n (usedD D) := by
  unfold usedD
  split
  · exact h
  · exact ⟨h.pos, h.most, h.dur, h.vis, h.fit, by have := h.left; show 0 ≤ D.left - 1; omega, by have := h.leftM; show D.left - 1 ≤ _; omega⟩
theorem Inv.write {n : Nat} {D : DiskD} (h : Inv n D) (off : Int) (s : ByteArray) : Inv n (writeD D off s) := by
  unfold writeD
  split
  · rename_i he
    unfold writeE at he
    split at he
    · cases he
    · split at he
      · rename_i h1 h2
        obtain ⟨i1, i2, i3, i4⟩ := inside_iff.1 h2
        rw [h.dur] at i3 i4
        refine Inv.used ⟨h.pos, h.most, h.dur, ?_, ?_, h.left, h.leftM⟩
        · simp only [List.foldl_append, List.foldl_cons, List.foldl_nil]
          rw [← h.vis]; rfl
        · intro w hw
          simp only [List.mem_append, List.mem_singleton] at hw
          rcases hw with hw | rfl
          · exact h.fit w hw
          · show off.toNat + s.size ≤ n; omega
      · cases he
  · exact h
theorem Inv.sync {n : Nat} {D : DiskD} (h : Inv n D) : Inv n (syncD D) := by
  unfold syncD
  split
  · exact h
  · exact ⟨h.pos, h.most, h.visLen, rfl, by simp, h.left, h.leftM⟩
theorem Inv.cut {n : Nat} {D : DiskD} (h : Inv n D) (k : Int) (hk : k ≤ 9223372036854775807) : Inv n (cutD D k) := by
  unfold cutD
  split
  · rename_i he
    refine ⟨h.pos, h.most, h.dur, h.vis, h.fit, ?_, hk⟩
    unfold cutE at he
    split at he
    · cases he
    · split at he
      · cases he
      · show 0 ≤ k; omega
  · exact h
theorem cutS_size (s : ByteArray) (k : Nat) (h : k ≤ s.size) : (cutS s k).size = k := by unfold cutS; simp; omega
theorem torn_fit {n : Nat} {torn : Int} : ∀ {l : List WrD}, (∀ w ∈ l, w.off + w.s.size ≤ n) → ∀ w ∈ lastTorn torn l, w.off + w.s.size ≤ n := by
  intro l
  induction l with
  | nil => intro _ w hw; cases hw
  | cons x l ih =>
    intro h w hw
    cases l with
    | nil =>
      simp only [lastTorn, List.mem_singleton] at hw
      subst hw
      have := h x (by simp)
      unfold tornW
      split
      · show x.off + (cutS x.s _).size ≤ n
        rw [cutS_size _ _ (by omega)]; omega
      · exact this
    | cons y l =>
      simp only [lastTorn, List.mem_cons] at hw
      rcases hw with rfl | hw
      · exact h w (by simp)
      · exact ih (fun z hz => h z (by simp at hz ⊢; right; exact hz)) w (by simpa [lastTorn] using hw)
theorem kept_fit {n : Nat} {D : DiskD} (h : Inv n D) (keep : List Int) : ∀ w ∈ keptW D keep, w.off + w.s.size ≤ n := by
  intro w hw
  unfold keptW keptI at hw
  simp only [List.mem_map, List.mem_filter, List.mem_range] at hw
  obtain ⟨i, ⟨hi, -⟩, rfl⟩ := hw
  rw [List.getD_eq_getElem?_getD, List.getElem?_eq_getElem hi]
  exact h.fit _ (List.getElem_mem hi)
theorem crash_len {n : Nat} {D : DiskD} (h : Inv n D) (keep : List Int) (torn : Int) : (crashB D keep torn).length = n := foldl_len _ _ h.dur (torn_fit (kept_fit h keep))
theorem Inv.crash {n : Nat} {D : DiskD} (h : Inv n D) (keep : List Int) (torn : Int) : Inv n (crashD D keep torn) :=
  ⟨h.pos, h.most, crash_len h keep torn, rfl, by simp [crashD], by simp [crashD], by simp [crashD]⟩
theorem Inv.new {n : Nat} (h : 1 ≤ n) (h2 : n ≤ 4194304) : Inv n (newD n) := ⟨h, h2, by simp [newD], rfl, by simp [newD], by simp [newD], by simp [newD]⟩
end Go.Proofs.YtnckpnbecmmcpaaGreatDoor
end
section
/- Laws over any program: copy from a string into bytes, copy between bytes, clear of a slice. -/
namespace Go.Proofs.YtnckpnbecmmcpaaGreatDoor
open Go.RowKit
variable {P : Program}

theorem putB_splice (b : List UInt8) (off : Nat) (s : List UInt8) : bcs (putB b off s) = (bcs b).take off ++ bcs s ++ (bcs b).drop (off + (bcs s).length) := by
  unfold putB; rw [bcs_app, bcs_app, bcs_take, bcs_drop, bcs_len]
theorem str_cells (s : ByteArray) (n : Nat) (h : s.size ≤ n) : ((s.extract 0 n).data.map fun b => Value.int .u8 (b.toNat : Int)).toList = bcs (bts s) := by
  have : (s.extract 0 n) = s := by apply ByteArray.ext; simp [Array.extract_eq_self_iff]; right; exact h
  rw [this]; simp [bcs, bts]
theorem run_copy_str (w : World) (dT sT ty elem : TypeId) (dp : Option Addr) (g o dLen dCap : Nat) (s : ByteArray) (b : List UInt8) (t : TypeId)
    (hu : P.underlying dT = some (.slice elem)) (hs : (P.info? elem).map (·.size) = some 1)
    (hg : Blk w g (bcs b).toArray t) (hn : s.size ≤ dLen) (hfit : o + s.size ≤ b.length) (hpos : 0 < s.size → dp = some ⟨g, o, none⟩) :
    (Builtin.copy_ #[dT, sT] ty #[.slice dp dLen dCap, .string s]).run P w = .ok (goInt s.size) (w.setRow g (bcs (putB b o (bts s))).toArray) := by
  cases hq : P.info? elem with
  | none => simp [hq] at hs
  | some i =>
    have hi : i.size = 1 := by simpa [hq] using hs
    have hmin : Nat.min s.size dLen = s.size := Nat.min_eq_left hn
    have hc := str_cells s s.size (Nat.le_refl _)
    by_cases h0 : s.size = 0
    · have hb : bts s = [] := List.eq_nil_of_length_eq_zero (by rw [bts_len]; exact h0)
      rw [hb] at hc ⊢
      have hp : putB b o [] = b := by simp [putB]
      rw [hp, setRow_self w g _ t (0, 0) hg]
      have hc' : ((s.extract 0 0).data.map fun b => Value.int .u8 (b.toNat : Int)) = #[] := by
        have := hc; rw [h0] at this; exact Array.toList_inj.1 (by rw [this]; rfl)
      cases dp with
      | none => simp [Builtin.copy_, run_underlying hu, Builtin.lenOf, Builtin.firstCells, sizeOf, typeInfo, hq, h0]
      | some a => simp [Builtin.copy_, run_underlying hu, Builtin.lenOf, Builtin.firstCells, sizeOf, typeInfo, hq, h0, storeCells]
    · obtain rfl := hpos (by omega)
      have hst := run_storeCells_at P g o t (bcs (bts s)) 0 (bcs b).toArray w hg (by simp [bcs_len]; exact hfit) (bcs_one _)
      have hca : ((s.extract 0 s.size).data.map fun b => Value.int .u8 (b.toNat : Int)) = (bcs (bts s)).toArray := Array.toList_inj.1 (by rw [hc])
      have e : (bcs (putB b o (bts s))).toArray = ((bcs b).toArray.toList.take (o + 0) ++ bcs (bts s) ++ (bcs b).toArray.toList.drop (o + 0 + (bcs (bts s)).length)).toArray := by rw [putB_splice]; simp
      rw [← e] at hst
      generalize (bcs (putB b o (bts s))).toArray = res at hst ⊢
      have hl : List.take s.size (List.map (fun b => Value.int .u8 (b.toNat : Int)) s.data.toList) = bcs (bts s) := by rw [List.take_of_length_le (by simp)]; rfl
      simp [Builtin.copy_, run_underlying hu, Builtin.lenOf, Builtin.firstCells, sizeOf, typeInfo, hq, hmin, hl, hst]
/-- The same as one step of a region that draws its order. -/
theorem step_copy_str {ops : Array Oper} {o : Oper} {a : Act} {w : World} {K : Act → World → Prop} {Q : Exit → Act → World → Prop} {E : Prop} (hgd : o.guard = none) (d s : Operand) (dT sT : TypeId)
    (ho : o.op = .call { callee := .builtin .copy, args := #[d, s], argTypes := #[dT, sT] }) (elem : TypeId) (hu : P.underlying dT = some (.slice elem)) (hsz : (P.info? elem).map (·.size) = some 1)
    (dp : Option Addr) (g off dLen dCap : Nat) (st : ByteArray) (b : List UInt8) (t : TypeId) (hd : a.eval d = .slice dp dLen dCap) (hs : a.eval s = .string st)
    (hg : Blk w g (bcs b).toArray t) (hn : st.size ≤ dLen) (hfit : off + st.size ≤ b.length) (hpos : 0 < st.size → dp = some ⟨g, off, none⟩)
    (h : K (a.put o.dst (goInt st.size)) (w.setRow g (bcs (putB b off (bts st))).toArray)) :
    if Region.wanted o (yielded ops a.tmps) = true then Oper.wp P o a w K Q else E := by
  have hw : Region.wanted o (yielded ops a.tmps) = true := by simp [Region.wanted, hgd]
  rw [if_pos hw]
  have hrun := run_copy_str (P := P) w dT sT o.type elem dp g off dLen dCap st b t hu hsz hg hn hfit hpos
  unfold Oper.wp
  simp [execOp, ho, resolve, invoke, builtin, hd, hs, hrun, Result.andThen]
  exact h
/-- All bytes of one block are copied into another one of the same length. -/
theorem run_copy_all (w : World) (dT sT ty elem : TypeId) (g sb n : Nat) (b c : List UInt8) (t u : TypeId)
    (hu : P.underlying dT = some (.slice elem)) (hs : (P.info? elem).map (·.size) = some 1)
    (hg : Blk w g (bcs b).toArray t) (hsb : Blk w sb (bcs c).toArray u) (hb : b.length = n) (hc : c.length = n) :
    (Builtin.copy_ #[dT, sT] ty #[.slice (some ⟨g, 0, none⟩) n n, .slice (some ⟨sb, 0, none⟩) n n]).run P w = .ok (goInt n) (w.setRow g (bcs c).toArray) := by
  have := run_copy_row (P := P) w dT sT ty elem g 0 n n ⟨sb, 0, none⟩ n n (bcs b).toArray t (bcs c) hu hs hg (by rw [bcs_len, hc]; exact (Nat.min_self n).symm)
    (fun j v hj => by rw [add_zero_off]; exact (hsb.cell j).trans (by simpa using hj)) (by simp [bcs_len]; omega) (bcs_one _)
  rw [this]
  have e : (bcs b).toArray.toList.take 0 ++ bcs c ++ (bcs b).toArray.toList.drop (0 + (bcs c).length) = bcs c := by
    simp [bcs_len]; omega
  rw [e, bcs_len, hc]
/-- clear of a slice whose cells are a row of the call's own. -/
theorem run_clear_own (w : World) (T ty e : TypeId) (z : Value) (size : Nat) (hu : P.underlying T = some (.slice e)) (hz : ∀ w : World, (zeroValue e).run P w = .ok z w) (hzs : z.cells.size = size)
    (h1 : ∀ x ∈ z.cells.toList, x.oneCell' = true)
    {base n : Nat} {v : Value} {xs : List Value} (hown : w.ownsRow base e size v n xs) :
    ∃ w', (Builtin.clear_ #[T] ty #[v]).run P w = .ok (.tuple #[]) w' ∧ (∃ ys, w'.ownsRow base e size v n ys) ∧ w.grownBy w' v.ownBlock := by
  rcases hown.2 with ⟨rfl, rfl⟩ | ⟨g, cap, cur, rfl, h2, h3, h4, h5, h6, h7⟩
  · refine ⟨w, ?_, ⟨xs, hown⟩, ⟨rfl, rfl, rfl, Nat.le_refl _, fun _ _ _ => rfl⟩⟩
    simp [Builtin.clear_, run_underlying hu]
  · cases n with
    | zero =>
      refine ⟨w, ?_, ⟨xs, hown⟩, ⟨rfl, rfl, rfl, Nat.le_refl _, fun _ _ _ => rfl⟩⟩
      simp [Builtin.clear_, run_underlying hu]
    | succ n =>
      have hlen : (Builtin.zeroCells z.cells (n + 1)).toList.length = (n + 1) * size := by simp [Builtin.zeroCells, hzs]
      have hone : ∀ x ∈ (Builtin.zeroCells z.cells (n + 1)).toList, x.oneCell' = true := by
        intro x hx
        simp only [Builtin.zeroCells, Array.toList_map, Array.toList_range, List.mem_map, List.mem_range] at hx
        obtain ⟨i, hi, rfl⟩ := hx
        have hp : 0 < z.cells.size := by
          refine Nat.pos_of_ne_zero fun h0 => ?_
          rw [h0, Nat.mul_zero] at hi; omega
        have hm := Nat.mod_lt i hp
        rw [getElem!_pos z.cells (i % z.cells.size) hm]
        exact h1 _ (by simp)
      have hle : (n + 1) * size ≤ cap * size := Nat.mul_le_mul_right _ h4
      have hst := run_storeCells_at P g 0 e (Builtin.zeroCells z.cells (n + 1)).toList 0 cur w h3 (by rw [hlen, h6]; omega) hone
      generalize hzc : Builtin.zeroCells z.cells (n + 1) = zc at hlen hone hst
      refine ⟨w.setRow g (cur.toList.take (0 + 0) ++ zc.toList ++ cur.toList.drop (0 + 0 + zc.toList.length)).toArray, ?_, ⟨zc.toList, ⟨hlen, .inr ⟨g, cap, _, rfl, h2, setRow_heap w g cur _ e _ h3, h4, h5, ?_, ?_⟩⟩⟩, ⟨rfl, rfl, rfl, by simp, fun k hk hne => setRow_other w g k _ (fun e => hne (by rw [e]; rfl))⟩⟩
      · generalize (w.setRow g (cur.toList.take (0 + 0) ++ zc.toList ++ cur.toList.drop (0 + 0 + zc.toList.length)).toArray) = w' at hst ⊢
        simp [Builtin.clear_, run_underlying hu, hz, hzc, hst]
      · simp [hlen, h6]; omega
      · simp
        rw [List.take_append_of_le_length (by rw [hlen]; exact Nat.le_refl _), List.take_of_length_le (by rw [hlen]; exact Nat.le_refl _)]
end Go.Proofs.YtnckpnbecmmcpaaGreatDoor
end
section
/- Laws over any program: append to an own row, with the place of the row behind it. -/
namespace Go.Proofs.YtnckpnbecmmcpaaGreatDoor
open Go.RowKit
variable {P : Program}

theorem run_append_where (w : World) (base : Nat) (t ty e : TypeId) (i : TypeInfo) (z : Value) (size bytes : Nat) (ht : P.underlying t = some (.slice e)) (hi : P.info? e = some i) (hz : i.zero = some z)
    (hsize : i.size = size) (hby : i.bytes = bytes) (hzs : z.cells.size = size) (hsz : 0 < size)
    (v : Value) (n : Nat) (xs : List Value) (hown : w.ownsRow base e size v n xs)
    (a : Addr) (m c : Nat) (news : List Value) (hl : news.length = m * size) (hnews : ∀ j u, news[j]? = some u → w.cell? (a.add j) = some u) (h1 : ∀ u ∈ news, u.oneCell' = true)
    (h63 : n + m ≤ maxLen) (hbytes : (n + m) * bytes ≤ 140737488355328) (hbase : base ≤ w.heap.size) :
    ∃ v' w', (Builtin.append_ #[t, t] ty #[v, .slice (some a) m c]).run P w = .ok v' w' ∧ w'.ownsRow base e size v' (n + m) (xs ++ news) ∧ w.grownBy w' v.ownBlock ∧
      (v'.ownBlock = v.ownBlock ∨ v'.ownBlock = some w.heap.size) := by
  obtain ⟨v', w', hr, h2, h3, h4⟩ := run_append_own (P := P) w base t ty e i z size bytes ht hi hz hsize hby hzs hsz v n xs hown a m c news hl hnews h1 h63 hbytes hbase
  refine ⟨v', w', hr, h2, h3, ?_⟩
  rcases hown.2 with ⟨rfl, rfl⟩ | ⟨g, cap, cur, rfl, h5, h6, h7, h8⟩
  · by_cases hm : m = 0
    · left; rw [(h4.2 ⟨rfl, hm⟩)]
    · right
      subst hsize; subst hby
      have hr2 := run_append_nil (P := P) w t ty e i z ht hi hz a m c news hl hnews (by omega) (by have := h63; unfold maxLen at this; omega) (by have hb := hbytes; simp only [Nat.zero_add] at hb; omega)
      rw [hr2] at hr
      cases hr
      rfl
  · by_cases hroom : n + m ≤ cap
    · left
      obtain ⟨w2, hr2, -⟩ := run_append_fits (P := P) w base t ty e i size ht hi hsize g n cap xs hown a m c news hl hnews h1 hroom
      rw [hr2] at hr
      cases hr
      rfl
    · right
      subst hsize; subst hby
      have holds : ∀ j u, xs[j]? = some u → w.cell? ((⟨g, 0, none⟩ : Addr).add j) = some u := hown.cells (g := g) rfl
      have hr2 := run_append_grow (P := P) w t ty e i z ht hi hz ⟨g, 0, none⟩ n cap xs hown.1 holds a m c news hl hnews (by omega) (by have := h63; unfold maxLen at this; omega) (growslice_fits (by omega) hbytes)
      rw [hr2] at hr
      cases hr
      rfl
/-- One element of several cells is appended to an own row, as a step of a region that draws. -/
theorem step_push {ops : Array Oper} {o : Oper} {a : Act} {w : World} {K : Act → World → Prop} {Q : Exit → Act → World → Prop} {E : Prop} {t e : TypeId} {z : Value} {size bytes : Nat} {us : List Value}
    (H : ElemOK P t e z size bytes) (hg : o.guard = none) (s x : Operand) (hop : o.op = Op.call { callee := Callee.builtin Builtin.append, args := #[s, x], argTypes := #[t, t] })
    (base : Nat) {v : Value} {n : Nat} {xs : List Value} (hown : w.ownsRow base e size v n xs) (hs : a.eval s = v) (p : Addr) (hx : a.eval x = .slice (some p) 1 1) (hl : us.length = size)
    (hnews : ∀ j u, us[j]? = some u → w.cell? (p.add j) = some u) (h1 : ∀ u ∈ us, u.oneCell' = true) (h63 : n + 1 ≤ maxLen) (hbytes : (n + 1) * bytes ≤ 140737488355328) (hbase : base ≤ w.heap.size)
    (hK : ∀ v' w', w'.ownsRow base e size v' (n + 1) (xs ++ us) → w.grownBy w' v.ownBlock → (v'.ownBlock = v.ownBlock ∨ v'.ownBlock = some w.heap.size) → K (a.put o.dst v') w') :
    if Region.wanted o (yielded ops a.tmps) = true then Oper.wp P o a w K Q else E := by
  have hw : Region.wanted o (yielded ops a.tmps) = true := by simp [Region.wanted, hg]
  rw [if_pos hw]
  obtain ⟨i, hi, hz0, hz1, hz2⟩ := info_parts H.info
  obtain ⟨v', w', hrun, r1, r2, r3⟩ := run_append_where (P := P) w base t o.type e i z size bytes H.und hi hz0 hz1 hz2 H.zs H.pos v n xs hown p 1 1 us (by rw [hl, Nat.one_mul]) hnews h1 h63 hbytes hbase
  unfold Oper.wp
  simp [execOp, hop, resolve, invoke, builtin, hs, hx, hrun, Result.andThen]
  exact hK v' w' r1 r2 r3
end Go.Proofs.YtnckpnbecmmcpaaGreatDoor
end
section
/- A disk in memory: its five cells, two contents, the row of pending writes; what an operation on it may touch. -/
namespace Go.Proofs.YtnckpnbecmmcpaaGreatDoor
open Go.RowKit

def wcs (l : List WrD) : List Value := l.flatMap fun w => [.int .i64 (w.off : Nat), .string w.s]
theorem wcs_len (l : List WrD) : (wcs l).length = l.length * 2 := by
  induction l with
  | nil => rfl
  | cons w l ih => simp only [wcs, List.flatMap_cons, List.length_append, List.length_cons, List.length_nil] at ih ⊢; omega
theorem wcs_app (l m : List WrD) : wcs (l ++ m) = wcs l ++ wcs m := by simp [wcs]
theorem wcs_get {l : List WrD} : ∀ {j : Nat} {w : WrD}, l[j]? = some w → (wcs l)[j * 2]? = some (.int .i64 (w.off : Nat)) ∧ (wcs l)[j * 2 + 1]? = some (.string w.s) := by
  induction l with
  | nil => intro j w h; simp at h
  | cons x l ih =>
    intro j w h
    cases j with
    | zero => simp at h; subst h; exact ⟨rfl, rfl⟩
    | succ j =>
      obtain ⟨h1, h2⟩ := ih (j := j) (w := w) (by simpa using h)
      have e1 : (j + 1) * 2 = j * 2 + 1 + 1 := by omega
      rw [e1]
      simp only [wcs, List.flatMap_cons, List.cons_append, List.nil_append, List.getElem?_cons_succ] at h1 h2 ⊢
      exact ⟨h1, h2⟩
/-- The cells of a disk. -/
def dkc (D : DiskD) (n bD bV : Nat) (vp : Value) : Array Value := #[.bool D.off, .int .i64 D.left, .slice (some ⟨bD, 0, none⟩) n n, .slice (some ⟨bV, 0, none⟩) n n, vp]
/-- A disk of size n at block B. -/
structure DiskAt (W : World) (B bD bV : Nat) (vp : Value) (n : Nat) (D : DiskD) : Prop where
  box : Blk W B (dkc D n bD bV vp) 97
  dur : Blk W bD (bcs D.dur).toArray 5
  vis : Blk W bV (bcs D.vis).toArray 5
  pen : W.ownsRow 0 92 2 vp D.pend.length (wcs D.pend)
  ne : bD ≠ bV
/-- The blocks of a disk. -/
def Foot (B bD bV : Nat) (vp : Value) (k : Nat) : Prop := k = B ∨ k = bD ∨ k = bV ∨ vp.ownBlock = some k
theorem DiskAt.lt {W : World} {B bD bV : Nat} {vp : Value} {n : Nat} {D : DiskD} (h : DiskAt W B bD bV vp n D) : ∀ k, Foot B bD bV vp k → k < W.heap.size := by
  rintro k (rfl | rfl | rfl | hk)
  · exact h.box.lt
  · exact h.dur.lt
  · exact h.vis.lt
  · exact (h.pen.lt k hk).2
theorem DiskAt.frm {F : Nat → Prop} {W W' : World} {B bD bV : Nat} {vp : Value} {n : Nat} {D : DiskD} (h : DiskAt W B bD bV vp n D) (hf : Frm F W W') (hF : ∀ k, Foot B bD bV vp k → ¬ F k) : DiskAt W' B bD bV vp n D :=
  ⟨h.box.frm hf (hF _ (.inl rfl)), h.dur.frm hf (hF _ (.inr (.inl rfl))), h.vis.frm hf (hF _ (.inr (.inr (.inl rfl)))), owned_kept h.pen (fun g hg => hf.block g (h.pen.lt g hg).2 (hF _ (.inr (.inr (.inr hg))))), h.ne⟩
theorem DiskAt.below {W W' : World} {B bD bV : Nat} {vp : Value} {n : Nat} {D : DiskD} (h : DiskAt W B bD bV vp n D) (hb : Below W.heap.size W W') : DiskAt W' B bD bV vp n D :=
  h.frm (F := fun _ => False) (Frm.of_below hb) (fun _ _ h => h)
/-- Blocks of a disk differ by what lies in them. -/
theorem DiskAt.neD {W : World} {B bD bV : Nat} {vp : Value} {n : Nat} {D : DiskD} (h : DiskAt W B bD bV vp n D) : B ≠ bD := h.box.ne h.dur (by decide)
theorem DiskAt.neV {W : World} {B bD bV : Nat} {vp : Value} {n : Nat} {D : DiskD} (h : DiskAt W B bD bV vp n D) : B ≠ bV := h.box.ne h.vis (by decide)
theorem DiskAt.neP {W : World} {B bD bV : Nat} {vp : Value} {n : Nat} {D : DiskD} (h : DiskAt W B bD bV vp n D) : ∀ g, vp.ownBlock = some g → g ≠ B ∧ g ≠ bD ∧ g ≠ bV := fun g hg => by
  obtain ⟨cur, hb, -⟩ := owned_block h.pen hg
  exact ⟨hb.ne h.box (by decide), hb.ne h.dur (by decide), hb.ne h.vis (by decide)⟩
end Go.Proofs.YtnckpnbecmmcpaaGreatDoor
end
section
/- package disk: check, inside, used. -/
namespace Go.Proofs.YtnckpnbecmmcpaaGreatDoor
open Go.RowKit

def checkE (D : DiskD) : Int := if D.off then 331 else 0
theorem check_nil (w : World) : Calls Tryz.prog 46 #[.pointer none] w fun e w' => e = .returned (.int .i64 1) ∧ w = w' := by
  go_enter Tryz.func46, Tryz.ntmps46
  go_wp2
  go_ret
  exact ⟨rfl, rfl⟩
theorem check_any {w : World} {B bD bV : Nat} {vp : Value} {n : Nat} {D : DiskD} (h : DiskAt w B bD bV vp n D) : Calls Tryz.prog 46 #[.pointer (some ⟨B, 0, none⟩)] w fun e w' => e = .returned (.int .i64 (checkE D)) ∧ w = w' := by
  have i0 := h.box.cell 0
  unfold dkc at i0
  simp only [List.getElem?_toArray, List.getElem?_cons_zero] at i0
  unfold checkE
  cases hD : D.off with
  | true =>
    rw [hD] at i0
    go_enter Tryz.func46, Tryz.ntmps46
    go_wp2
    go_ret
    exact ⟨rfl, rfl⟩
  | false =>
    rw [hD] at i0
    go_enter Tryz.func46, Tryz.ntmps46
    go_wp2
    go_ret
    exact ⟨rfl, rfl⟩
theorem inside_any {w : World} {B bD bV : Nat} {vp : Value} {n : Nat} {D : DiskD} (h : DiskAt w B bD bV vp n D) (hn : n ≤ 4194304) (off len : Int) : Calls Tryz.prog 47 #[.pointer (some ⟨B, 0, none⟩), .int .i64 off, .int .i64 len] w fun e w' => e = .returned (.bool (insideB n off len)) ∧ w = w' := by
  have i2 := h.box.cell 2
  unfold dkc at i2
  simp only [List.getElem?_toArray, List.getElem?_cons_succ, List.getElem?_cons_zero] at i2
  have hres : ∀ a b c d : Bool, decide (0 ≤ off) = a → decide (0 ≤ len) = b → decide (off ≤ n) = c → decide (len ≤ n - off) = d → insideB n off len = (a && b && c && d) := by
    intro a b c d h1 h2 h3 h4; unfold insideB; rw [h1, h2, h3, h4]
  have HR := Lib.hid hres
  clear hres h
  by_cases h1 : 0 ≤ off
  · have d1 : decide (0 ≤ off) = true := decide_eq_true h1
    by_cases h2 : 0 ≤ len
    · have d2 : decide (0 ≤ len) = true := decide_eq_true h2
      by_cases h3 : off ≤ n
      · have d3 : decide (off ≤ (n : Int)) = true := decide_eq_true h3
        have hw : IntKind.i64.wrap ((n : Int) - off) = (n : Int) - off := by rw [IntKind.wrap_i64]; omega
        by_cases h4 : len ≤ n - off
        · have d4 : decide (len ≤ (n : Int) - off) = true := decide_eq_true h4
          have H := Lib.hid (HR.out _ _ _ _ d1 d2 d3 d4)
          clear h1 h2 h3 h4 HR
          go_enter Tryz.func47, Tryz.ntmps47
          go_wp2
          go_ret
          exact ⟨by rw [H.out]; rfl, rfl⟩
        · have d4 : decide (len ≤ (n : Int) - off) = false := decide_eq_false h4
          have H := Lib.hid (HR.out _ _ _ _ d1 d2 d3 d4)
          clear h1 h2 h3 h4 HR
          go_enter Tryz.func47, Tryz.ntmps47
          go_wp2
          go_ret
          exact ⟨by rw [H.out]; rfl, rfl⟩
      · have d3 : decide (off ≤ (n : Int)) = false := decide_eq_false h3
        have H := Lib.hid (HR.out _ _ _ _ d1 d2 d3 rfl)
        clear h1 h2 h3 HR
        go_enter Tryz.func47, Tryz.ntmps47
        go_wp2
        go_ret
        exact ⟨by rw [H.out]; simp, rfl⟩
    · have d2 : decide (0 ≤ len) = false := decide_eq_false h2
      have H := Lib.hid (HR.out _ _ _ _ d1 d2 rfl rfl)
      clear h1 h2 HR
      go_enter Tryz.func47, Tryz.ntmps47
      go_wp2
      go_ret
      exact ⟨by rw [H.out]; simp, rfl⟩
  · have d1 : decide (0 ≤ off) = false := decide_eq_false h1
    have H := Lib.hid (HR.out _ _ _ _ d1 rfl rfl rfl)
    clear h1 HR
    go_enter Tryz.func47, Tryz.ntmps47
    go_wp2
    go_ret
    exact ⟨by rw [H.out]; simp, rfl⟩
/-- used: the two cells of the power of a disk. -/
theorem used_any {w : World} {B bD bV : Nat} {vp : Value} {n : Nat} {D : DiskD} (h : DiskAt w B bD bV vp n D) (hl : 0 ≤ D.left) (hm : D.left ≤ 9223372036854775807) :
    Calls Tryz.prog 49 #[.pointer (some ⟨B, 0, none⟩)] w fun e w' => e = .returned (.tuple #[]) ∧ DiskAt w' B bD bV vp n (usedD D) ∧ Frm (fun k => k = B) w w' := by
  have i0 := h.box.cell 0
  have i1 := h.box.cell 1
  have f0 := h.box.frozen 0
  have f1 := h.box.frozen 1
  unfold dkc at i0 i1
  simp only [List.getElem?_toArray, List.getElem?_cons_succ, List.getElem?_cons_zero] at i0 i1
  have H := Lib.hid h
  have hU : usedD D = if D.left = 0 then D else { D with left := D.left - 1, off := decide (D.left - 1 = 0) } := rfl
  clear h
  by_cases h0 : D.left = 0
  · rw [if_pos h0] at hU
    rw [h0] at i1
    have HU := Lib.hid hU
    clear hU h0
    go_enter Tryz.func49, Tryz.ntmps49
    go_wp2
    refine bodyPost_ret (v := .tuple #[]) (by simp [results, Tryz.results49, go_sem]) rfl ?_
    exact ⟨rfl, by rw [HU.out]; exact H.out, Frm.refl _ _⟩
  · rw [if_neg h0] at hU
    have HU := Lib.hid hU
    have hw : IntKind.i64.wrap (D.left - 1) = D.left - 1 := by rw [IntKind.wrap_i64]; omega
    have q0 : (D.left == 0) = false := beq_eq_false_iff_ne.2 h0
    clear hU
    have fin : ∀ b : Bool, decide (D.left - 1 = 0) = b → Hid (DiskAt ((w.setCell ⟨B, 1, none⟩ (.int .i64 (D.left - 1))).setCell ⟨B, 0, none⟩ (.bool b)) B bD bV vp n (usedD D)) := by
      intro b hb
      rw [HU.out, hb]
      obtain ⟨k1, k2, k3, k4, k5⟩ := H.out
      have nD := H.out.neD
      have nV := H.out.neV
      have nP := H.out.neP
      exact ⟨(k1.set 1 _).set 0 _, (k2.other _ nD.symm).other _ nD.symm, (k3.other _ nV.symm).other _ nV.symm, owned_kept k4 (fun g hg => (Below.heap_setCell _ _ _ _ (nP g hg).1).trans (Below.heap_setCell _ _ _ _ (nP g hg).1)), k5⟩
    by_cases h1 : D.left - 1 = 0
    · have F := fin true (decide_eq_true h1)
      have q1 : (D.left - 1 == 0) = true := beq_iff_eq.2 h1
      clear fin h1
      go_enter Tryz.func49, Tryz.ntmps49
      go_wp2
      go_end0
      exact ⟨rfl, F.out, ((Frm.refl (fun k => k = B) w).setCell (fun _ => rfl) _).setCell (fun _ => rfl) _⟩
    · have F := fin false (decide_eq_false h1)
      have q1 : (D.left - 1 == 0) = false := beq_eq_false_iff_ne.2 h1
      clear fin
      go_enter Tryz.func49, Tryz.ntmps49
      go_wp2
      go_end0
      exact ⟨rfl, F.out, ((Frm.refl (fun k => k = B) w).setCell (fun _ => rfl) _).setCell (fun _ => rfl) _⟩
end Go.Proofs.YtnckpnbecmmcpaaGreatDoor
end
section
/- package disk: onto, settle. -/
namespace Go.Proofs.YtnckpnbecmmcpaaGreatDoor
open Go.RowKit

theorem info5 : (Tryz.prog.info? 5).map (·.size) = some 1 := by kernel_rfl
set_option maxRecDepth 100000 in
theorem onto_any {w : World} {g n : Nat} {b : List UInt8} (hg : Blk w g (bcs b).toArray 5) (hb : b.length = n) (off : Nat) (s : ByteArray) (hfit : off + s.size ≤ n) :
    Calls Tryz.prog 48 #[.agg #[.int .i64 (off : Nat), .string s], .slice (some ⟨g, 0, none⟩) n n] w fun e w' => e = .returned (.tuple #[]) ∧ Blk w' g (bcs (putB b off (bts s))).toArray 5 ∧ Frm (fun k => k = g) w w' := by
  have hgl := hg.lt
  have hA : Blk (w.alloc (.cells #[.int .i64 (off : Nat), .string s] 92)).drew g (bcs b).toArray 5 := hg.alloc _
  have HA := Lib.hid hA
  have hp : (0 : Int) ≤ (off : Int) ∧ (off : Int) ≤ (n : Int) := by omega
  have HF : Hid (off + s.size ≤ b.length ∧ s.size ≤ n - off) := ⟨by omega, by omega⟩
  have HP : Hid (0 < s.size → (if n = off then some (⟨g, 0, none⟩ : Addr) else some ⟨g, off, none⟩) = some ⟨g, off, none⟩) := fun h => if_neg (by omega)
  clear hA hg hb hfit
  go_enter Tryz.func48, Tryz.ntmps48
  go_wp2
  go_region_law (first | (refine step_copy_str rfl (.tmp 7) (.tmp 9) 39 9 rfl 5 Tryz.underlying39 info5 (if n = off then some (⟨g, 0, none⟩ : Addr) else some ⟨g, off, none⟩) g off (n - off) (n - off) s b 5 rfl rfl HA.out HF.out.2 HF.out.1 HP.out ?_))
  all_goals (
    go_end0
    exact ⟨rfl, HA.out.row _, ((Frm.refl (fun k => k = g) w).alloc _).drew.setRow (fun _ => rfl) _⟩)
theorem wpList_copy_all {P : Program} {w : World} {ops : Array Oper} {rest : List Oper} {o : Oper} {a : Act} {Q : Exit → Act → World → Prop} (hgd : o.guard = none) (d s : Operand) (dT sT : TypeId)
    (ho : o.op = .call { callee := .builtin .copy, args := #[d, s], argTypes := #[dT, sT] }) (elem : TypeId) (hu : P.underlying dT = some (.slice elem)) (hsz : (P.info? elem).map (·.size) = some 1)
    (g sb n : Nat) (b c : List UInt8) (t u : TypeId) (hd : a.eval d = .slice (some ⟨g, 0, none⟩) n n) (hs : a.eval s = .slice (some ⟨sb, 0, none⟩) n n)
    (hg : Blk w g (bcs b).toArray t) (hsb : Blk w sb (bcs c).toArray u) (hb : b.length = n) (hc : c.length = n)
    (h : wpList P ops Q rest (a.put o.dst (goInt n)) (w.setRow g (bcs c).toArray)) : wpList P ops Q (o :: rest) a w :=
  wpList_plain hgd fun K hK => by
    have hrun := run_copy_all (P := P) w dT sT o.type elem g sb n b c t u hu hsz hg hsb hb hc
    unfold Oper.wp
    simp [execOp, ho, resolve, invoke, builtin, hd, hs, hrun, Result.andThen]
    exact hK _ _ h
theorem wpList_clear {P : Program} {w : World} {ops : Array Oper} {rest : List Oper} {o : Oper} {a : Act} {Q : Exit → Act → World → Prop} (hgd : o.guard = none) (d : Operand) (T e : TypeId) (z : Value) (size : Nat)
    (ho : o.op = .call { callee := .builtin .clear, args := #[d], argTypes := #[T] }) (hu : P.underlying T = some (.slice e)) (hz : ∀ w : World, (zeroValue e).run P w = .ok z w) (hzs : z.cells.size = size) (h1 : ∀ x ∈ z.cells.toList, x.oneCell' = true)
    {base n : Nat} {v : Value} {xs : List Value} (hown : w.ownsRow base e size v n xs) (hd : a.eval d = v)
    (h : ∀ w', (∃ ys, w'.ownsRow base e size v n ys) → w.grownBy w' v.ownBlock → wpList P ops Q rest (a.put o.dst (.tuple #[])) w') : wpList P ops Q (o :: rest) a w :=
  wpList_plain hgd fun K hK => by
    obtain ⟨w', hrun, h2, h3⟩ := run_clear_own (P := P) w T o.type e z size hu hz hzs h1 hown
    unfold Oper.wp
    simp [execOp, ho, resolve, invoke, builtin, hd, hrun, Result.andThen]
    exact hK _ _ (h w' h2 h3)
theorem zero69 (w : World) : (zeroValue 92).run Tryz.prog w = .ok (.agg #[.int .i64 0, .string ⟨#[]⟩]) w := by kernel_rfl
theorem size69 : (Value.agg #[.int .i64 0, .string ⟨#[]⟩]).cells.size = 2 := rfl
theorem one69 : ∀ x ∈ (Value.agg #[.int .i64 0, .string ⟨#[]⟩]).cells.toList, x.oneCell' = true := by intro x hx; simp [Value.cells] at hx; rcases hx with rfl | rfl <;> rfl
/-- An own row, cut to no element. -/
theorem owned_cut0 {W : World} {base e k n c : Nat} {a : Option Addr} {xs : List Value} (h : W.ownsRow base e k (.slice a n c) n xs) : W.ownsRow base e k (.slice a 0 c) 0 [] := by
  refine ⟨by simp, ?_⟩
  rcases h.2 with ⟨h1, h2⟩ | ⟨g, cap, cur, h1, h2, h3, h4, h5, h6, h7⟩
  · cases h1; exact .inl ⟨rfl, rfl⟩
  · cases h1; exact .inr ⟨g, c, cur, rfl, h2, h3, Nat.zero_le _, h5, h6, by simp⟩
set_option maxRecDepth 100000 in
theorem settle_gen {w : World} {B sb tb n m : Nat} {b c : List UInt8} {x0 x1 x2 x3 vp : Value} {xs : List Value} (hB : Blk w B #[x0, x1, x2, x3, vp] 97) (hs : Blk w sb (bcs c).toArray 5) (ht : Blk w tb (bcs b).toArray 5)
    (hb : b.length = n) (hc : c.length = n) (hne : tb ≠ sb) (hp : w.ownsRow 0 92 2 vp m xs) :
    Calls Tryz.prog 65 #[.pointer (some ⟨B, 0, none⟩), .slice (some ⟨sb, 0, none⟩) n n, .slice (some ⟨tb, 0, none⟩) n n] w fun e w' => ∃ vp', e = .returned (.tuple #[]) ∧
      Blk w' B #[x0, x1, x2, x3, vp'] 97 ∧ Blk w' sb (bcs c).toArray 5 ∧ Blk w' tb (bcs c).toArray 5 ∧ w'.ownsRow 0 92 2 vp' 0 [] ∧ vp'.ownBlock = vp.ownBlock ∧ Frm (fun k => k = tb ∨ k = B ∨ vp.ownBlock = some k) w w' := by
  obtain ⟨pa, pc, rfl, hp1, hp2⟩ := owned_len hp
  unfold maxLen at hp2
  have nB : B ≠ tb := hB.ne ht (by decide)
  have nP : ∀ g, (Value.slice pa m pc).ownBlock = some g → g ≠ tb := fun g hg => by obtain ⟨cur, h1, -⟩ := owned_block hp hg; exact h1.ne ht (by decide)
  have hB1 := hB.rowOther (bcs c).toArray nB
  have hp1' : (w.setRow tb (bcs c).toArray).ownsRow 0 92 2 (.slice pa m pc) m xs := owned_kept hp (fun g hg => setRow_other _ _ _ _ (nP g hg))
  have hs1 := hs.rowOther (bcs c).toArray hne.symm
  have ht1 := ht.row (bcs c).toArray
  have HP := Lib.hid (And.intro hp1' (And.intro hs1 ht1))
  have HI := Lib.hid (And.intro ht (And.intro hs (And.intro hb hc)))
  have HN := Lib.hid nP
  have i4 := hB1.cell 4
  simp only [List.getElem?_toArray, List.getElem?_cons_succ, List.getElem?_cons_zero] at i4
  clear hB hs ht hp hp1' hs1 ht1 hb hc nP
  obtain ⟨w3, hrun, ⟨ys, hown3⟩, hg3⟩ := run_clear_own (P := Tryz.prog) _ 93 0 92 _ 2 Tryz.underlying93 zero69 size69 one69 HP.out.1
  have nPB : ∀ g, (Value.slice pa m pc).ownBlock = some g → g ≠ B ∧ g ≠ sb ∧ g ≠ tb := fun g hg => by
    obtain ⟨cur, h1, -⟩ := owned_block HP.out.1 hg
    exact ⟨h1.ne hB1 (by decide), h1.ne HP.out.2.1 (by decide), h1.ne HP.out.2.2 (by decide)⟩
  have hB3 : Blk w3 B #[x0, x1, x2, x3, .slice pa m pc] 97 := (hg3.block B hB1.lt (fun e => (nPB B e.symm).1 rfl)).trans hB1
  have hs3 : Blk w3 sb (bcs c).toArray 5 := (hg3.block sb HP.out.2.1.lt (fun e => (nPB sb e.symm).2.1 rfl)).trans HP.out.2.1
  have ht3 : Blk w3 tb (bcs c).toArray 5 := (hg3.block tb HP.out.2.2.lt (fun e => (nPB tb e.symm).2.2 rfl)).trans HP.out.2.2
  have hF : Frm (fun k => k = tb ∨ k = B ∨ (Value.slice pa m pc).ownBlock = some k) w w3 := ((Frm.refl _ w).setRow (fun _ => .inl rfl) _).grown hg3 (fun k hk _ => .inr (.inr hk))
  have h0 := owned_cut0 hown3
  have nsB : sb ≠ B := HP.out.2.1.ne hB1 (by decide)
  have j4 := hB3.cell 4
  have f4 := hB3.frozen 4
  simp only [List.getElem?_toArray, List.getElem?_cons_succ, List.getElem?_cons_zero] at j4
  have HX := Lib.hid (And.intro hB3 (And.intro hs3 (And.intro ht3 (And.intro hF (And.intro h0 (And.intro nPB (And.intro nB nsB)))))))
  clear nPB hB1 hB3 hs3 ht3 hF h0 nB nsB hown3 hg3
  have hpi : (0 : Int) ≤ (pc : Int) := by omega
  go_enter Tryz.func65, Tryz.ntmps65
  go_wp2_with (first | (with_reducible refine wpList_copy_all rfl (.tmp 6) (.tmp 7) 39 39 rfl 5 Tryz.underlying39 info5 tb sb n b c 5 5 rfl rfl HI.out.1 HI.out.2.1 HI.out.2.2.1 HI.out.2.2.2 ?_))
  go_end0
  obtain ⟨hB3, hs3, ht3, hF, h0, nPB, nB, nsB⟩ := HX.out
  have hob : (Value.slice pa 0 pc).ownBlock = (Value.slice pa m pc).ownBlock := by cases pa <;> rfl
  exact ⟨_, rfl, hB3.set 4 _, hs3.other _ nsB, ht3.other _ nB.symm, owned_kept h0 (fun g hg => Below.heap_setCell _ _ _ _ (nPB g (hob ▸ hg)).1), hob, hF.setCell (fun _ => .inr (.inl rfl)) _⟩
theorem settle_sync {w : World} {B bD bV : Nat} {vp : Value} {n : Nat} {D : DiskD} (h : DiskAt w B bD bV vp n D) (hd : D.dur.length = n) (hv : D.vis.length = n) :
    Calls Tryz.prog 65 #[.pointer (some ⟨B, 0, none⟩), .slice (some ⟨bV, 0, none⟩) n n, .slice (some ⟨bD, 0, none⟩) n n] w fun e w' => ∃ vp', e = .returned (.tuple #[]) ∧
      DiskAt w' B bD bV vp' n { D with dur := D.vis, pend := [] } ∧ vp'.ownBlock = vp.ownBlock ∧ Frm (Foot B bD bV vp) w w' := by
  refine (settle_gen h.box h.vis h.dur hd hv h.ne h.pen).mono ?_
  rintro e w' ⟨vp', rfl, h1, h2, h3, h4, h5, h6⟩
  exact ⟨vp', rfl, ⟨h1, h3, h2, h4, h.ne⟩, h5, h6.mono (fun k _ hk => by rcases hk with hk | hk | hk; exact .inr (.inl hk); exact .inl hk; exact .inr (.inr (.inr hk)))⟩
theorem settle_crash {w : World} {B bD bV : Nat} {vp : Value} {n : Nat} {D : DiskD} (h : DiskAt w B bD bV vp n D) (hd : D.dur.length = n) (hv : D.vis.length = n) :
    Calls Tryz.prog 65 #[.pointer (some ⟨B, 0, none⟩), .slice (some ⟨bD, 0, none⟩) n n, .slice (some ⟨bV, 0, none⟩) n n] w fun e w' => ∃ vp', e = .returned (.tuple #[]) ∧
      DiskAt w' B bD bV vp' n { D with vis := D.dur, pend := [] } ∧ vp'.ownBlock = vp.ownBlock ∧ Frm (Foot B bD bV vp) w w' := by
  refine (settle_gen h.box h.dur h.vis hv hd h.ne.symm h.pen).mono ?_
  rintro e w' ⟨vp', rfl, h1, h2, h3, h4, h5, h6⟩
  exact ⟨vp', rfl, ⟨h1, h2, h3, h4, h.ne⟩, h5, h6.mono (fun k _ hk => by rcases hk with hk | hk | hk; exact .inr (.inr (.inl hk)); exact .inl hk; exact .inr (.inr (.inr hk)))⟩
end Go.Proofs.YtnckpnbecmmcpaaGreatDoor
end
section
/- package disk: New, Size, Pending, Sync, Cut. -/
namespace Go.Proofs.YtnckpnbecmmcpaaGreatDoor
open Go.RowKit

theorem E40 : ElemOK Tryz.prog 39 5 (.int .u8 0) 1 1 := ⟨Tryz.underlying39, by kernel_rfl, rfl, by decide⟩
theorem E63 : ElemOK Tryz.prog 93 92 (.agg #[.int .i64 0, .string ⟨#[]⟩]) 2 24 := ⟨Tryz.underlying93, by kernel_rfl, rfl, by decide⟩
theorem made_bytes (n : Nat) : madeCells #[Value.int .u8 0] n = (bcs (List.replicate n 0)).toArray := by
  apply Array.toList_inj.1
  rw [toList_madeCells_one]
  simp [bcs]
theorem mk40 (n : Nat) (hn : n ≤ 4194304) (w : World) : (Instr.makeSlice 39 (.int .i64 n) (.int .i64 n)).run Tryz.prog w = .ok (.slice (some ⟨w.heap.size, 0, none⟩) n n) (w.alloc (.cells (bcs (List.replicate n 0)).toArray 5)) := by
  obtain ⟨i, hi, hz0, hz1, hz2⟩ := info_parts E40.info
  have h := run_make (P := Tryz.prog) w 39 5 i _ E40.und hi hz0 .i64 .i64 n n (by omega) (Int.le_refl _) (by rw [hz2]; omega) (by omega)
  rw [← made_bytes]
  rw [Int.toNat_natCast, hz1, Nat.mul_one] at h
  exact h
theorem new_no (size : Int) (w : World) (h : size < 1 ∨ 4194304 < size) : Calls Tryz.prog 24 #[.int .i64 size] w fun e w' => e = .returned (.tuple #[.pointer none, .int .i64 2]) ∧ w = w' := by
  by_cases h1 : size < 1
  · have d1 : decide (size < 1) = true := decide_eq_true h1
    clear h
    go_enter Tryz.func24, Tryz.ntmps24
    go_wp2
    go_ret2
    exact ⟨rfl, rfl⟩
  · have h2 : 4194304 < size := by omega
    have d1 : decide (size < 1) = false := decide_eq_false h1
    have d2 : decide (4194304 < size) = true := decide_eq_true h2
    clear h
    go_enter Tryz.func24, Tryz.ntmps24
    go_wp2
    go_ret2
    exact ⟨rfl, rfl⟩
theorem new_yes (n : Nat) (w : World) (h1 : 1 ≤ n) (h2 : n ≤ 4194304) : Calls Tryz.prog 24 #[.int .i64 (n : Nat)] w fun e w' => ∃ B bD bV, e = .returned (.tuple #[.pointer (some ⟨B, 0, none⟩), .int .i64 0]) ∧
    DiskAt w' B bD bV (.slice none 0 0) n (newD n) ∧ w.heap.size ≤ B ∧ w.heap.size ≤ bD ∧ w.heap.size ≤ bV ∧ Below w.heap.size w w' := by
  have d1 : decide ((n : Int) < 1) = false := decide_eq_false (by omega)
  have d2 : decide ((4194304 : Int) < (n : Int)) = false := decide_eq_false (by omega)
  have hmk := mk40 n h2
  have H := Lib.hid (And.intro h1 h2)
  clear h1 h2
  go_enter Tryz.func24, Tryz.ntmps24
  go_wp2
  go_region
  all_goals (
    go_wp2
    go_ret2
    have hA : Below w.heap.size w ((((w.alloc (.cells (bcs (List.replicate n 0)).toArray 5)).alloc (.cells (bcs (List.replicate n 0)).toArray 5)))) := ((Below.refl _ _).alloc (Nat.le_refl _) _).alloc (by simp) _
    have ka := (Blk.new w (bcs (List.replicate n 0)).toArray 5).alloc (.cells (bcs (List.replicate n 0)).toArray 5)
    have kb := Blk.newAt (w.alloc (.cells (bcs (List.replicate n 0)).toArray 5)) (bcs (List.replicate n 0)).toArray 5 (n := w.heap.size + 1) (by simp)
    first
      | exact ⟨_, _, _, rfl, ⟨Blk.newAt _ _ _ (by simp), ka.alloc _, kb.alloc _, World.ownsRow_nil _ _ _ _, by simp⟩, by omega, by omega, by omega, (hA.alloc (by simp; omega) _).drew⟩
      | exact ⟨_, _, _, rfl, ⟨Blk.newAt _ _ _ (by simp), kb.alloc _, ka.alloc _, World.ownsRow_nil _ _ _ _, by simp⟩, by omega, by omega, by omega, (hA.alloc (by simp; omega) _).drew⟩)
theorem retI {a b : Int} (h : a = b) : Ending.returned (.int .i64 a) = .returned (.int .i64 b) := by rw [h]
theorem size_nil (w : World) : Calls Tryz.prog 51 #[.pointer none] w fun e w' => e = .returned (.int .i64 0) ∧ w = w' := by
  go_enter Tryz.func51, Tryz.ntmps51
  go_wp2
  go_ret
  exact ⟨rfl, rfl⟩
theorem size_any {w : World} {B bD bV : Nat} {vp : Value} {n : Nat} {D : DiskD} (h : DiskAt w B bD bV vp n D) : Calls Tryz.prog 51 #[.pointer (some ⟨B, 0, none⟩)] w fun e w' => e = .returned (.int .i64 (n : Nat)) ∧ w = w' := by
  have i2 := h.box.cell 2
  unfold dkc at i2
  simp only [List.getElem?_toArray, List.getElem?_cons_succ, List.getElem?_cons_zero] at i2
  clear h
  go_enter Tryz.func51, Tryz.ntmps51
  go_wp2
  go_ret
  exact ⟨rfl, rfl⟩
theorem pending_nil (w : World) : Calls Tryz.prog 32 #[.pointer none] w fun e w' => e = .returned (.int .i64 0) ∧ w = w' := by
  go_enter Tryz.func32, Tryz.ntmps32
  go_wp2
  go_ret
  exact ⟨rfl, rfl⟩
theorem pending_any {w : World} {B bD bV : Nat} {vp : Value} {n : Nat} {D : DiskD} (h : DiskAt w B bD bV vp n D) : Calls Tryz.prog 32 #[.pointer (some ⟨B, 0, none⟩)] w fun e w' => e = .returned (.int .i64 (D.pend.length : Nat)) ∧ w = w' := by
  have i4 := h.box.cell 4
  unfold dkc at i4
  simp only [List.getElem?_toArray, List.getElem?_cons_succ, List.getElem?_cons_zero] at i4
  obtain ⟨a, c, rfl, -, -⟩ := owned_len h.pen
  clear h
  go_enter Tryz.func32, Tryz.ntmps32
  go_wp2
  go_ret
  exact ⟨rfl, rfl⟩
theorem cut_nil (k : Int) (w : World) : Calls Tryz.prog 29 #[.pointer none, .int .i64 k] w fun e w' => e = .returned (.int .i64 1) ∧ w = w' := by
  go_enter Tryz.func29, Tryz.ntmps29
  go_wp2_with fail
  refine (check_nil _).mono ?_
  rintro e w' ⟨rfl, rfl⟩
  go_wp2
  go_ret
  exact ⟨rfl, rfl⟩
theorem cut_any {w : World} {B bD bV : Nat} {vp : Value} {n : Nat} {D : DiskD} (h : DiskAt w B bD bV vp n D) (k : Int) : Calls Tryz.prog 29 #[.pointer (some ⟨B, 0, none⟩), .int .i64 k] w fun e w' => e = .returned (.int .i64 (cutE D k)) ∧ DiskAt w' B bD bV vp n (cutD D k) ∧ Frm (fun i => i = B) w w' := by
  have hc := check_any h
  have i0 := h.box.cell 0
  have i1 := h.box.cell 1
  have f0 := h.box.frozen 0
  have f1 := h.box.frozen 1
  unfold dkc at i0 i1
  simp only [List.getElem?_toArray, List.getElem?_cons_succ, List.getElem?_cons_zero] at i0 i1
  have HC : Hid (cutE D k = if D.off then 331 else if k < 0 then 2 else 0) := rfl
  have HD : Hid (cutD D k = if cutE D k = 0 then { D with off := decide (k = 0), left := k } else D) := rfl
  have H := Lib.hid h
  unfold checkE at hc
  clear h
  cases hD : D.off with
  | true =>
    rw [hD] at hc i0
    have e1 : Hid (cutE D k = 331) := by rw [HC.out, hD]; rfl
    have e2 : Hid (cutD D k = D) := by rw [HD.out, e1.out]; rfl
    clear hD
    go_enter Tryz.func29, Tryz.ntmps29
    go_wp2_with fail
    refine hc.mono ?_
    rintro e w' ⟨rfl, rfl⟩
    clear hc
    go_wp2
    go_ret
    exact ⟨retI e1.out.symm, by rw [e2.out]; exact H.out, Frm.refl _ _⟩
  | false =>
    rw [hD] at hc i0
    by_cases hk : k < 0
    · have e1 : Hid (cutE D k = 2) := by rw [HC.out, hD, if_pos hk]; rfl
      have e2 : Hid (cutD D k = D) := by rw [HD.out, e1.out]; rfl
      have d1 : decide (k < 0) = true := decide_eq_true hk
      clear hD
      go_enter Tryz.func29, Tryz.ntmps29
      go_wp2_with fail
      refine hc.mono ?_
      rintro e w' ⟨rfl, rfl⟩
      clear hc
      go_wp2
      go_ret
      exact ⟨retI e1.out.symm, by rw [e2.out]; exact H.out, Frm.refl _ _⟩
    · have e1 : Hid (cutE D k = 0) := by rw [HC.out, hD, if_neg hk]; rfl
      have e2 : Hid (cutD D k = { D with off := decide (k = 0), left := k }) := by rw [HD.out, e1.out]; rfl
      have d1 : decide (k < 0) = false := decide_eq_false hk
      have fin : ∀ b : Bool, decide (k = 0) = b → Hid (DiskAt ((w.setCell ⟨B, 0, none⟩ (.bool b)).setCell ⟨B, 1, none⟩ (.int .i64 k)) B bD bV vp n (cutD D k)) := by
        intro b hb
        rw [e2.out, hb]
        obtain ⟨k1, k2, k3, k4, k5⟩ := H.out
        have nD := H.out.neD
        have nV := H.out.neV
        have nP := H.out.neP
        exact ⟨(k1.set 0 _).set 1 _, (k2.other _ nD.symm).other _ nD.symm, (k3.other _ nV.symm).other _ nV.symm, owned_kept k4 (fun g hg => (Below.heap_setCell _ _ _ _ (nP g hg).1).trans (Below.heap_setCell _ _ _ _ (nP g hg).1)), k5⟩
      clear hD
      by_cases h0 : k = 0
      · have F := fin true (decide_eq_true h0)
        have q1 : (k == 0) = true := beq_iff_eq.2 h0
        clear fin h0 hk
        go_enter Tryz.func29, Tryz.ntmps29
        go_wp2_with fail
        refine hc.mono ?_
        rintro e w' ⟨rfl, rfl⟩
        clear hc
        go_wp2
        go_ret
        exact ⟨retI e1.out.symm, F.out, ((Frm.refl (fun i => i = B) w).setCell (fun _ => rfl) _).setCell (fun _ => rfl) _⟩
      · have F := fin false (decide_eq_false h0)
        have q1 : (k == 0) = false := beq_eq_false_iff_ne.2 h0
        clear fin h0 hk
        go_enter Tryz.func29, Tryz.ntmps29
        go_wp2_with fail
        refine hc.mono ?_
        rintro e w' ⟨rfl, rfl⟩
        clear hc
        go_wp2
        go_ret
        exact ⟨retI e1.out.symm, F.out, ((Frm.refl (fun i => i = B) w).setCell (fun _ => rfl) _).setCell (fun _ => rfl) _⟩
end Go.Proofs.YtnckpnbecmmcpaaGreatDoor
end
section
/- package disk: Read, Sync, Write. -/
namespace Go.Proofs.YtnckpnbecmmcpaaGreatDoor
open Go.RowKit

/-- Bytes of a block, as a string. -/
def subS (b : List UInt8) (o k : Nat) : ByteArray := ⟨((b.drop o).take k).toArray⟩
theorem conv_bytes {w : World} {g o k c : Nat} {b : List UInt8} {t : TypeId} (hg : Blk w g (bcs b).toArray t) (h : o + k ≤ b.length) (a : Addr) (ha : 0 < k → a = ⟨g, o, none⟩) (hz : ∃ b' o', a = ⟨b', o', none⟩) :
    (convert 39 9 (.slice (some a) k c)).run Tryz.prog w = .ok (.string (subS b o k)) w := by
  obtain ⟨b', o', rfl⟩ := hz
  have key : strOfNums (((b.drop o).take k).map fun x => (x.toNat : Int)) = subS b o k := by
    unfold strOfNums subS
    congr 1
    have hf : ((fun n : Int => UInt8.ofNat n.toNat) ∘ fun x : UInt8 => (x.toNat : Int)) = id := by funext x; simp
    rw [List.map_map, hf, List.map_id]
  rw [← key]
  refine run_convert_bytes_arg (P := Tryz.prog) w 39 5 Tryz.underlying39 Tryz.underlying5 b' o' k c _ (by simp; omega) (fun i hi => ?_) 9 Tryz.underlying9
  cases ha (by omega)
  refine (hg.cell _).trans ?_
  have hl : o + i < b.length := by omega
  have h1 : (bcs b).toArray[o + i]? = some (.int .u8 ((b[o + i]'hl).toNat : Int)) := by simp [bcs, hl]
  rw [h1]
  congr 2
  rw [List.getD_eq_getElem?_getD, List.getElem?_map, List.getElem?_take, if_pos hi, List.getElem?_drop, List.getElem?_eq_getElem hl]
  rfl
theorem retS {a b : ByteArray} {c d : Int} (h : b = a) (k : d = c) : Ending.returned (.tuple #[.string a, .int .i64 c]) = .returned (.tuple #[.string b, .int .i64 d]) := by rw [h, k]
theorem read_nil (off k : Int) (w : World) : Calls Tryz.prog 52 #[.pointer none, .int .i64 off, .int .i64 k] w fun e w' => e = .returned (.tuple #[.string ⟨#[]⟩, .int .i64 1]) ∧ w = w' := by
  go_enter Tryz.func52, Tryz.ntmps52
  go_wp2_with fail
  refine (check_nil _).mono ?_
  rintro e w' ⟨rfl, rfl⟩
  go_wp2
  go_ret2
  exact ⟨rfl, rfl⟩
set_option maxRecDepth 100000 in
theorem read_any {w : World} {B bD bV : Nat} {vp : Value} {n : Nat} {D : DiskD} (h : DiskAt w B bD bV vp n D) (hd : D.dur.length = n) (hv : D.vis.length = n) (hn : n ≤ 4194304) (off k : Int) :
    Calls Tryz.prog 52 #[.pointer (some ⟨B, 0, none⟩), .int .i64 off, .int .i64 k] w fun e w' => e = .returned (.tuple #[.string (readS D off k), .int .i64 (readE D off k)]) ∧ w = w' := by
  have hc := check_any h
  have hi := inside_any h hn off k
  have i3 := h.box.cell 3
  unfold dkc at i3
  simp only [List.getElem?_toArray, List.getElem?_cons_succ, List.getElem?_cons_zero] at i3
  have HC : Hid (readE D off k = if D.off then 331 else if insideB n off k then 0 else 330) := by unfold readE; rw [hd]; rfl
  have HS : Hid (readS D off k = if readE D off k = 0 then subS D.vis off.toNat k.toNat else ⟨#[]⟩) := rfl
  have HV := Lib.hid h.vis
  unfold checkE at hc
  clear h
  cases hD : D.off with
  | true =>
    rw [hD] at hc
    have e1 : Hid (readE D off k = 331) := by rw [HC.out, hD]; rfl
    have e2 : Hid (readS D off k = ⟨#[]⟩) := by rw [HS.out, e1.out]; rfl
    clear hD hi
    go_enter Tryz.func52, Tryz.ntmps52
    go_wp2_with fail
    refine hc.mono ?_
    rintro e w' ⟨rfl, rfl⟩
    clear hc
    go_wp2
    go_ret2
    exact ⟨retS e2.out e1.out, rfl⟩
  | false =>
    rw [hD] at hc
    cases hin : insideB n off k with
    | false =>
      rw [hin] at hi
      have e1 : Hid (readE D off k = 330) := by rw [HC.out, hD, hin]; rfl
      have e2 : Hid (readS D off k = ⟨#[]⟩) := by rw [HS.out, e1.out]; rfl
      clear hD hin
      go_enter Tryz.func52, Tryz.ntmps52
      go_wp2_with fail
      refine hc.mono ?_
      rintro e w' ⟨rfl, rfl⟩
      clear hc
      go_wp2_with fail
      refine hi.mono ?_
      rintro e w' ⟨rfl, rfl⟩
      clear hi
      go_wp2
      go_ret2
      exact ⟨retS e2.out e1.out, rfl⟩
    | true =>
      rw [hin] at hi
      have e1 : Hid (readE D off k = 0) := by rw [HC.out, hD, hin]; rfl
      have e2 : Hid (readS D off k = subS D.vis off.toNat k.toNat) := by rw [HS.out, e1.out]; rfl
      obtain ⟨q1, q2, q3, q4⟩ := inside_iff.1 hin
      clear hD hin
      obtain ⟨o, rfl⟩ := Int.eq_ofNat_of_zero_le q1
      obtain ⟨l, rfl⟩ := Int.eq_ofNat_of_zero_le q2
      have hlo : o ≤ n := by omega
      have hll : l ≤ n - o := by omega
      have hconv := conv_bytes (w := w) (c := n - o) HV.out (o := o) (k := l) (by omega)
      have hA1 : n = o → (convert 39 9 (.slice (some ⟨bV, 0, none⟩) l (n - o))).run Tryz.prog w = .ok (.string (subS D.vis o l)) w := fun e => hconv ⟨bV, 0, none⟩ (fun h => absurd h (by omega)) ⟨_, _, rfl⟩
      have hA2 : (convert 39 9 (.slice (some ⟨bV, o, none⟩) l (n - o))).run Tryz.prog w = .ok (.string (subS D.vis o l)) w := hconv ⟨bV, o, none⟩ (fun _ => rfl) ⟨_, _, rfl⟩
      have hA : (convert 39 9 (.slice (if n = o then some ⟨bV, 0, none⟩ else some ⟨bV, o, none⟩) l (n - o))).run Tryz.prog w = .ok (.string (subS D.vis o l)) w := by
        by_cases e : n = o
        · rw [if_pos e]; exact hA1 e
        · rw [if_neg e]; exact hA2
      clear hA1 hA2 hconv
      go_enter Tryz.func52, Tryz.ntmps52
      go_wp2_with fail
      refine hc.mono ?_
      rintro e w' ⟨rfl, rfl⟩
      clear hc
      go_wp2_with fail
      refine hi.mono ?_
      rintro e w' ⟨rfl, rfl⟩
      clear hi
      go_wp2
      all_goals (
        go_ret2
        exact ⟨retS e2.out e1.out, rfl⟩)
theorem sync_nil (w : World) : Calls Tryz.prog 42 #[.pointer none] w fun e w' => e = .returned (.int .i64 1) ∧ w = w' := by
  go_enter Tryz.func42, Tryz.ntmps42
  go_wp2_with fail
  refine (check_nil _).mono ?_
  rintro e w' ⟨rfl, rfl⟩
  go_wp2
  go_ret
  exact ⟨rfl, rfl⟩
set_option maxRecDepth 100000 in
theorem sync_any {w : World} {B bD bV : Nat} {vp : Value} {n : Nat} {D : DiskD} (h : DiskAt w B bD bV vp n D) (hd : D.dur.length = n) (hv : D.vis.length = n) :
    Calls Tryz.prog 42 #[.pointer (some ⟨B, 0, none⟩)] w fun e w' => ∃ vp', e = .returned (.int .i64 (syncE D)) ∧ DiskAt w' B bD bV vp' n (syncD D) ∧ vp'.ownBlock = vp.ownBlock ∧ Frm (Foot B bD bV vp) w w' := by
  have hc := check_any h
  have hs := settle_sync (h.below (W' := w.drew) (Below.refl _ _).drew) hd hv
  have i2 := h.box.cell 2
  have i3 := h.box.cell 3
  unfold dkc at i2 i3
  simp only [List.getElem?_toArray, List.getElem?_cons_succ, List.getElem?_cons_zero] at i2 i3
  have HE : Hid (syncE D = if D.off then 331 else 0) := rfl
  have HD : Hid (syncD D = if D.off then D else { D with dur := D.vis, pend := [] }) := rfl
  have H := Lib.hid h
  unfold checkE at hc
  clear h
  cases hD : D.off with
  | true =>
    rw [hD] at hc
    have e1 : Hid (syncE D = 331) := by rw [HE.out, hD]; rfl
    have e2 : Hid (syncD D = D) := by rw [HD.out, hD]; rfl
    clear hD hs
    go_enter Tryz.func42, Tryz.ntmps42
    go_wp2_with fail
    refine hc.mono ?_
    rintro e w' ⟨rfl, rfl⟩
    clear hc
    go_wp2
    go_ret
    exact ⟨vp, retI e1.out.symm, by rw [e2.out]; exact H.out, rfl, Frm.refl _ _⟩
  | false =>
    rw [hD] at hc
    have e1 : Hid (syncE D = 0) := by rw [HE.out, hD]; rfl
    have e2 : Hid (syncD D = { D with dur := D.vis, pend := [] }) := by rw [HD.out, hD]; rfl
    clear hD
    go_enter Tryz.func42, Tryz.ntmps42
    go_wp2_with fail
    refine hc.mono ?_
    rintro e w' ⟨rfl, rfl⟩
    clear hc
    go_wp2_with fail
    go_still_tail 9, (by kernel_rfl)
    change wpList _ _ _ _ _ w.drew
    go_wp2_with fail
    refine hs.mono ?_
    rintro e w' ⟨vp', rfl, h1, h2, h3⟩
    clear hs
    go_wp2
    go_ret
    exact ⟨vp', retI e1.out.symm, by rw [e2.out]; exact h1, h2, ((Frm.refl (Foot B bD bV vp) w).drew).trans h3 (fun _ _ h => h)⟩
theorem write_nil (off : Int) (s : ByteArray) (w : World) : Calls Tryz.prog 13 #[.pointer none, .int .i64 off, .string s] w fun e w' => e = .returned (.int .i64 1) ∧ w = w' := by
  go_enter Tryz.func13, Tryz.ntmps13
  go_wp2_with fail
  refine (check_nil _).mono ?_
  rintro e w' ⟨rfl, rfl⟩
  go_wp2
  go_ret
  exact ⟨rfl, rfl⟩
set_option maxRecDepth 100000 in
theorem write_no {w : World} {B bD bV : Nat} {vp : Value} {n : Nat} {D : DiskD} (h : DiskAt w B bD bV vp n D) (hd : D.dur.length = n) (hn : n ≤ 4194304) (off : Int) (s : ByteArray) (he : writeE D off s ≠ 0) :
    Calls Tryz.prog 13 #[.pointer (some ⟨B, 0, none⟩), .int .i64 off, .string s] w fun e w' => e = .returned (.int .i64 (writeE D off s)) ∧ w = w' := by
  have hc := check_any h
  have hi := inside_any h hn off s.size
  have HE : Hid (writeE D off s = if D.off then 331 else if insideB n off s.size then 0 else 330) := by unfold writeE; rw [hd]; rfl
  have HN := Lib.hid he
  unfold checkE at hc
  clear h he
  cases hD : D.off with
  | true =>
    rw [hD] at hc
    have e1 : Hid (writeE D off s = 331) := by rw [HE.out, hD]; rfl
    clear hD hi
    go_enter Tryz.func13, Tryz.ntmps13
    go_wp2_with fail
    refine hc.mono ?_
    rintro e w' ⟨rfl, rfl⟩
    clear hc
    go_wp2
    go_ret
    exact ⟨retI e1.out.symm, rfl⟩
  | false =>
    rw [hD] at hc
    cases hin : insideB n off s.size with
    | true => exact absurd (by rw [HE.out, hD, hin]; rfl) HN.out
    | false =>
      rw [hin] at hi
      have e1 : Hid (writeE D off s = 330) := by rw [HE.out, hD, hin]; rfl
      clear hD hin
      go_enter Tryz.func13, Tryz.ntmps13
      go_wp2_with fail
      refine hc.mono ?_
      rintro e w' ⟨rfl, rfl⟩
      clear hc
      go_wp2_with fail
      refine hi.mono ?_
      rintro e w' ⟨rfl, rfl⟩
      clear hi
      go_wp2
      go_ret
      exact ⟨retI e1.out.symm, rfl⟩
end Go.Proofs.YtnckpnbecmmcpaaGreatDoor
end
section
/- package disk: Write, where it succeeds. -/
namespace Go.Proofs.YtnckpnbecmmcpaaGreatDoor
open Go.RowKit

theorem DiskAt.pushed {w W1 w5 : World} {B bD bV : Nat} {vp v' : Value} {n : Nat} {D : DiskD} (h : DiskAt w B bD bV vp n D) (o : Nat) (s : ByteArray) (hf : Frm (Foot B bD bV vp) w W1)
    (h1 : DiskAt W1 B bD bV vp n D) (hown : w5.ownsRow 0 92 2 v' (D.pend.length + 1) (wcs D.pend ++ [.int .i64 (o : Nat), .string s])) (hg : W1.grownBy w5 vp.ownBlock) :
    Blk w5 B (dkc D n bD bV vp) 97 ∧ DiskAt (w5.setCell ⟨B, 4, none⟩ v') B bD bV v' n { D with pend := D.pend ++ [⟨o, s⟩] } ∧ Frm (Foot B bD bV vp) w (w5.setCell ⟨B, 4, none⟩ v') := by
  have nP := h.neP
  have bB : Blk w5 B (dkc D n bD bV vp) 97 := (hg.block B h1.box.lt (fun e => (nP B e.symm).1 rfl)).trans h1.box
  have bd : Blk w5 bD (bcs D.dur).toArray 5 := (hg.block bD h1.dur.lt (fun e => (nP bD e.symm).2.1 rfl)).trans h1.dur
  have bv : Blk w5 bV (bcs D.vis).toArray 5 := (hg.block bV h1.vis.lt (fun e => (nP bV e.symm).2.2 rfl)).trans h1.vis
  refine ⟨bB, ⟨bB.set 4 v', bd.other _ h.neD.symm, bv.other _ h.neV.symm, ?_, h.ne⟩, (hf.grown hg (fun k hk _ => .inr (.inr (.inr hk)))).setCell (fun _ => .inl rfl) _⟩
  have e : wcs (D.pend ++ [⟨o, s⟩]) = wcs D.pend ++ [.int .i64 (o : Nat), .string s] := by rw [wcs_app]; rfl
  show (w5.setCell ⟨B, 4, none⟩ v').ownsRow 0 92 2 v' (D.pend ++ [(⟨o, s⟩ : WrD)]).length (wcs (D.pend ++ [⟨o, s⟩]))
  rw [e, List.length_append]
  refine owned_kept hown (fun g hgg => Below.heap_setCell _ _ _ _ (fun e => ?_))
  obtain ⟨cur, hb, -⟩ := owned_block hown hgg
  exact hb.ne bB (by decide) e
set_option maxRecDepth 100000 in
set_option maxHeartbeats 1000000 in
theorem write_yes {w : World} {B bD bV : Nat} {vp : Value} {n : Nat} {D : DiskD} (h : DiskAt w B bD bV vp n D) (hI : Inv n D) (hp : D.pend.length ≤ 1000000) (off : Int) (s : ByteArray) (he : writeE D off s = 0) :
    Calls Tryz.prog 13 #[.pointer (some ⟨B, 0, none⟩), .int .i64 off, .string s] w fun e w' => ∃ vp', e = .returned (.int .i64 (writeE D off s)) ∧ DiskAt w' B bD bV vp' n (writeD D off s) ∧
      (vp'.ownBlock = vp.ownBlock ∨ ∃ g, vp'.ownBlock = some g ∧ w.heap.size ≤ g) ∧ Frm (Foot B bD bV vp) w w' := by
  have hn := hI.most
  have hc := check_any h
  have hi := inside_any h hn off s.size
  have hwD : writeD D off s = usedD { D with pend := D.pend ++ [⟨off.toNat, s⟩], vis := putB D.vis off.toNat (bts s) } := by unfold writeD; rw [if_pos he]
  have hoff : D.off = false := by
    cases hD : D.off with
    | false => rfl
    | true => unfold writeE at he; rw [hD] at he; cases he
  have hin : insideB n off s.size = true := by
    unfold writeE at he; rw [hoff, hI.dur] at he
    cases hq : insideB n off s.size with
    | true => rfl
    | false => rw [hq] at he; cases he
  unfold checkE at hc
  rw [hoff] at hc
  rw [hin] at hi
  obtain ⟨q1, q2, q3, q4⟩ := inside_iff.1 hin
  obtain ⟨o, rfl⟩ := Int.eq_ofNat_of_zero_le q1
  rw [Int.toNat_natCast] at hwD
  have hfit : o + s.size ≤ n := by omega
  have HW := Lib.hid hwD
  have HE := Lib.hid he
  have HI := Lib.hid hI
  have H := Lib.hid h
  clear hwD he hI hoff hin q1 q2 q3 q4
  obtain ⟨pa, pc, rfl, hp1, hp2⟩ := owned_len h.pen
  have hA := h.below (W' := w.alloc (.cells #[.int .i64 (o : Nat), .string s] 92)) ((Below.refl _ _).alloc (Nat.le_refl _) _)
  have kA := Blk.new w #[.int .i64 (o : Nat), .string s] 92
  have hFA : Frm (Foot B bD bV (.slice pa D.pend.length pc)) w (w.alloc (.cells #[.int .i64 (o : Nat), .string s] 92)) := (Frm.refl _ _).alloc _
  have hAs : (w.alloc (.cells #[.int .i64 (o : Nat), .string s] 92)).heap.size = w.heap.size + 1 := by simp
  go_enter Tryz.func13, Tryz.ntmps13
  go_wp2_with fail
  refine hc.mono ?_
  rintro e w' ⟨rfl, rfl⟩
  clear hc
  go_wp2_with fail
  refine hi.mono ?_
  rintro e w' ⟨rfl, rfl⟩
  clear hi h
  go_wp2_with fail
  generalize w.alloc (.cells #[.int .i64 (o : Nat), .string s] 92) = W1 at hA kA hFA hAs ⊢
  have i4 := hA.box.cell 4
  have f4 := hA.box.frozen 4
  have i3 := hA.box.cell 3
  unfold dkc at i4 i3
  have a0 := kA.cell 0
  have a1 := kA.cell 1
  simp only [List.getElem?_toArray, List.getElem?_cons_succ, List.getElem?_cons_zero] at i4 i3 a0 a1
  have hX : Below W1.heap.size W1 (W1.alloc (.cells #[.int .i64 (o : Nat), .string s] 92)).drew := ((Below.refl _ _).alloc (Nat.le_refl _) _).drew
  have HX := Lib.hid (And.intro (hA.below hX) ((hFA.alloc (.cells #[.int .i64 (o : Nat), .string s] 92)).drew))
  have HOWN := Lib.hid (owned_below hA.pen hX)
  have HNW : Hid (∀ j u, ([.int .i64 (o : Nat), .string s] : List Value)[j]? = some u → (W1.alloc (.cells #[.int .i64 (o : Nat), .string s] 92)).drew.cell? ((⟨W1.heap.size, 0, none⟩ : Addr).add j) = some u) := fun j u hj => by rw [add_zero_off]; exact ((Blk.new W1 _ 92).cell j).trans (by simpa using hj)
  have HO1 : Hid (∀ u ∈ ([.int .i64 (o : Nat), .string s] : List Value), u.oneCell' = true) := fun u hu => by simp at hu; rcases hu with rfl | rfl <;> rfl
  have lB := hA.box.lt
  have lA := kA.lt
  have HA := Lib.hid hA
  have HKA := Lib.hid kA
  have HAS := Lib.hid hAs
  clear hA kA hX hFA hAs
  go_region_law (first | (refine step_push (w := (W1.alloc (.cells #[.int .i64 (o : Nat), .string s] 92)).drew) E63 rfl (.tmp 27) (.tmp 29) rfl 0 HOWN.out (by simp [Act.eval]) ⟨W1.heap.size, 0, none⟩ (by simp [Act.eval]) rfl HNW.out HO1.out (by unfold maxLen; omega) (by omega) (Nat.zero_le _) ?_; intro v' w5 hown' hgrow hwh; obtain ⟨hb5, h5, hF5⟩ := H.out.pushed o s HX.out.2 HX.out.1 hown' hgrow; obtain ⟨na, nc, rfl, hn1, hn2⟩ := owned_len hown'; have j4 := hb5.cell 4; have g4 := hb5.frozen 4; unfold dkc at j4; simp only [List.getElem?_toArray, List.getElem?_cons_succ, List.getElem?_cons_zero] at j4))
  all_goals (
    go_wp2_with fail
    have kA5 : Blk w5 w.heap.size #[.int .i64 (o : Nat), .string s] 92 := (hgrow.block w.heap.size (by show w.heap.size < (W1.alloc _).heap.size; simp; omega) (fun e => by have := H.out.lt _ (.inr (.inr (.inr e.symm))); omega)).trans (HKA.out.alloc (.cells #[.int .i64 (o : Nat), .string s] 92))
    have kA6 := kA5.other (a := ⟨B, 4, none⟩) (.slice na (D.pend.length + 1) nc) (by have := H.out.box.lt; simp; omega)
    have hw2 : (Value.slice na (D.pend.length + 1) nc).ownBlock = (Value.slice pa D.pend.length pc).ownBlock ∨ ∃ g, (Value.slice na (D.pend.length + 1) nc).ownBlock = some g ∧ w.heap.size ≤ g := by
      rcases hwh with h | h
      · exact .inl h
      · exact .inr ⟨_, h, by show w.heap.size ≤ (W1.alloc _).heap.size; simp; omega⟩
    have HWH := Lib.hid hw2
    clear hw2 hwh hgrow hown' hb5 j4 g4 i4 f4 i3 a0 a1 kA5
    generalize w5.setCell ⟨B, 4, none⟩ (.slice na (D.pend.length + 1) nc) = W2 at h5 hF5 kA6 ⊢
    have i3 := h5.box.cell 3
    unfold dkc at i3
    have a0 := kA6.cell 0
    have a1 := kA6.cell 1
    simp only [List.getElem?_toArray, List.getElem?_cons_succ, List.getElem?_cons_zero] at i3 a0 a1
    have hv := HI.out.visLen
    have h5d := h5.below (W' := W2.drew) (Below.refl _ _).drew
    have hon := onto_any (n := n) h5d.vis hv o s hfit
    have HF := Lib.hid (hF5.drew)
    have HD := Lib.hid h5d
    clear h5 hF5 h5d hv kA6
    go_still_tail 5, (by kernel_rfl)
    change wpList _ _ _ _ _ W2.drew
    clear i3 a0 a1
    go_wp2_with fail
    refine hon.mono ?_
    rintro e w6 ⟨rfl, hV, hf6⟩
    have h6 : DiskAt w6 B bD bV (.slice na (D.pend.length + 1) nc) n { D with pend := D.pend ++ [⟨o, s⟩], vis := putB D.vis o (bts s) } :=
      ⟨HD.out.box.frm hf6 HD.out.neV, HD.out.dur.frm hf6 HD.out.ne, hV, owned_kept HD.out.pen (fun g hg => hf6.block g (HD.out.pen.lt g hg).2 (HD.out.neP g hg).2.2), HD.out.ne⟩
    have hu := used_any h6 HI.out.left HI.out.leftM
    have HF6 := Lib.hid (HF.out.trans hf6 (fun i _ e => .inr (.inr (.inl e))))
    clear hon hf6 hV h6
    go_wp2_with fail
    refine hu.mono ?_
    rintro e w7 ⟨rfl, h7, hf7⟩
    clear hu
    go_wp2
    go_ret
    exact ⟨_, retI HE.out.symm, by rw [HW.out]; exact h7, HWH.out, HF6.out.trans hf7 (fun i _ e => .inl e)⟩)
end Go.Proofs.YtnckpnbecmmcpaaGreatDoor
end
