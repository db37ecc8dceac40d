/- Plain mathematics of chapter 33: a disk with pending writes. No Go program in sight. -/
import Derived.Below
namespace Go.Proofs.Ytfmdpmcniccioaa

/-- A content into which a string has been written at a place. -/
def putB (b : List UInt8) (off : Nat) (s : List UInt8) : List UInt8 := b.take off ++ s ++ b.drop (off + s.length)
theorem putB_len {b : List UInt8} {off : Nat} {s : List UInt8} (h : off + s.length ≤ b.length) : (putB b off s).length = b.length := by
  unfold putB; simp; omega
theorem putB_get {b : List UInt8} {off : Nat} {s : List UInt8} (h : off + s.length ≤ b.length) (i : Nat) (hi : i < b.length) :
    (putB b off s)[i]? = if off ≤ i ∧ i < off + s.length then s[i - off]? else b[i]? := by
  unfold putB
  by_cases h1 : i < off
  · rw [if_neg (by omega), List.append_assoc, List.getElem?_append_left (by simp; omega), List.getElem?_take, if_pos h1]
  · by_cases h2 : i < off + s.length
    · rw [if_pos ⟨by omega, h2⟩, List.append_assoc, List.getElem?_append_right (by simp; omega), List.getElem?_append_left (by simp; omega)]
      congr 1; simp; omega
    · rw [if_neg (by omega), List.getElem?_append_right (by simp; omega), List.getElem?_drop]
      congr 1; simp; omega
/-- A pending write. -/
structure WrD where
  off : Nat
  s : ByteArray
structure DiskD where
  off : Bool
  left : Int
  dur : List UInt8
  vis : List UInt8
  pend : List WrD
abbrev bts (s : ByteArray) : List UInt8 := s.data.toList
theorem bts_len (s : ByteArray) : (bts s).length = s.size := rfl
def ontoW (b : List UInt8) (w : WrD) : List UInt8 := putB b w.off (bts w.s)
/-- The first k bytes of a string. -/
def cutS (s : ByteArray) (k : Nat) : ByteArray := s.extract 0 k
theorem cutS_all (s : ByteArray) : cutS s s.size = s := by
  unfold cutS; apply ByteArray.ext; simp
def insideB (n : Nat) (off len : Int) : Bool := decide (0 ≤ off) && decide (0 ≤ len) && decide (off ≤ n) && decide (len ≤ n - off)
/-- A write has been counted. -/
def usedD (D : DiskD) : DiskD := if D.left = 0 then D else { D with left := D.left - 1, off := decide (D.left - 1 = 0) }
def writeE (D : DiskD) (off : Int) (s : ByteArray) : Int := if D.off then 331 else if insideB D.dur.length off s.size then 0 else 330
def writeD (D : DiskD) (off : Int) (s : ByteArray) : DiskD :=
  if writeE D off s = 0 then usedD { D with pend := D.pend ++ [⟨off.toNat, s⟩], vis := putB D.vis off.toNat (bts s) } else D
def syncE (D : DiskD) : Int := if D.off then 331 else 0
def syncD (D : DiskD) : DiskD := if D.off then D else { D with dur := D.vis, pend := [] }
def readE (D : DiskD) (off n : Int) : Int := if D.off then 331 else if insideB D.dur.length off n then 0 else 330
def readS (D : DiskD) (off n : Int) : ByteArray := if readE D off n = 0 then ⟨((D.vis.drop off.toNat).take n.toNat).toArray⟩ else ⟨#[]⟩
def cutE (D : DiskD) (n : Int) : Int := if D.off then 331 else if n < 0 then 2 else 0
def cutD (D : DiskD) (n : Int) : DiskD := if cutE D n = 0 then { D with off := decide (n = 0), left := n } else D
/-- The pending writes that survive. -/
def keptI (n : Nat) (keep : List Int) : List Nat := (List.range n).filter fun i => decide ((i : Int) ∈ keep)
def tornW (torn : Int) (w : WrD) : WrD := if 0 ≤ torn then { w with s := cutS w.s (min torn.toNat w.s.size) } else w
def lastTorn (torn : Int) : List WrD → List WrD
  | [] => []
  | [w] => [tornW torn w]
  | w :: x :: l => w :: lastTorn torn (x :: l)
def dW : WrD := ⟨0, ⟨#[]⟩⟩
def keptW (D : DiskD) (keep : List Int) : List WrD := (keptI D.pend.length keep).map fun i => D.pend.getD i dW
def crashB (D : DiskD) (keep : List Int) (torn : Int) : List UInt8 := (lastTorn torn (keptW D keep)).foldl ontoW D.dur
def crashD (D : DiskD) (keep : List Int) (torn : Int) : DiskD := { off := false, left := 0, dur := crashB D keep torn, vis := crashB D keep torn, pend := [] }
def newD (n : Nat) : DiskD := { off := false, left := 0, dur := List.replicate n 0, vis := List.replicate n 0, pend := [] }

/-- What holds of every disk. -/
structure Inv (n : Nat) (D : DiskD) : Prop where
  pos : 1 ≤ n
  most : n ≤ 4194304
  dur : D.dur.length = n
  vis : D.vis = D.pend.foldl ontoW D.dur
  fit : ∀ w ∈ D.pend, w.off + w.s.size ≤ n
  left : 0 ≤ D.left
  leftM : D.left ≤ 9223372036854775807
theorem foldl_len {n : Nat} : ∀ (l : List WrD) (b : List UInt8), b.length = n → (∀ w ∈ l, w.off + w.s.size ≤ n) → (l.foldl ontoW b).length = n := by
  intro l
  induction l with
  | nil => intro b h _; exact h
  | cons w l ih =>
    intro b h hw
    refine ih _ ?_ (fun x hx => hw x (by simp [hx]))
    unfold ontoW
    rw [putB_len (by have := hw w (by simp); rw [bts_len]; omega), h]
theorem Inv.visLen {n : Nat} {D : DiskD} (h : Inv n D) : D.vis.length = n := by rw [h.vis]; exact foldl_len _ _ h.dur h.fit
theorem inside_iff {n : Nat} {off len : Int} : insideB n off len = true ↔ 0 ≤ off ∧ 0 ≤ len ∧ off ≤ n ∧ len ≤ n - off := by
  unfold insideB; simp [and_assoc]
theorem Inv.used {n : Nat} {D : DiskD} (h : Inv n D) : Inv n (usedD D) := by
  unfold usedD
  split
  · exact h
  · exact ⟨h.pos, h.most, h.dur, h.vis, h.fit, by have := h.left; show 0 ≤ D.left - 1; omega, by have := h.leftM; show D.left - 1 ≤ _; omega⟩
theorem Inv.write {n : Nat} {D : DiskD} (h : Inv n D) (off : Int) (s : ByteArray) : Inv n (writeD D off s) := by
  unfold writeD
  split
  · rename_i he
    unfold writeE at he
    split at he
    · cases he
    · split at he
      · rename_i h1 h2
        obtain ⟨i1, i2, i3, i4⟩ := inside_iff.1 h2
        rw [h.dur] at i3 i4
        refine Inv.used ⟨h.pos, h.most, h.dur, ?_, ?_, h.left, h.leftM⟩
        · simp only [List.foldl_append, List.foldl_cons, List.foldl_nil]
          rw [← h.vis]; rfl
        · intro w hw
          simp only [List.mem_append, List.mem_singleton] at hw
          rcases hw with hw | rfl
          · exact h.fit w hw
          · show off.toNat + s.size ≤ n; omega
      · cases he
  · exact h
theorem Inv.sync {n : Nat} {D : DiskD} (h : Inv n D) : Inv n (syncD D) := by
  unfold syncD
  split
  · exact h
  · exact ⟨h.pos, h.most, h.visLen, rfl, by simp, h.left, h.leftM⟩
theorem Inv.cut {n : Nat} {D : DiskD} (h : Inv n D) (k : Int) (hk : k ≤ 9223372036854775807) : Inv n (cutD D k) := by
  unfold cutD
  split
  · rename_i he
    refine ⟨h.pos, h.most, h.dur, h.vis, h.fit, ?_, hk⟩
    unfold cutE at he
    split at he
    · cases he
    · split at he
      · cases he
      · show 0 ≤ k; omega
  · exact h
theorem cutS_size (s : ByteArray) (k : Nat) (h : k ≤ s.size) : (cutS s k).size = k := by unfold cutS; simp; omega
theorem torn_fit {n : Nat} {torn : Int} : ∀ {l : List WrD}, (∀ w ∈ l, w.off + w.s.size ≤ n) → ∀ w ∈ lastTorn torn l, w.off + w.s.size ≤ n := by
  intro l
  induction l with
  | nil => intro _ w hw; cases hw
  | cons x l ih =>
    intro h w hw
    cases l with
    | nil =>
      simp only [lastTorn, List.mem_singleton] at hw
      subst hw
      have := h x (by simp)
      unfold tornW
      split
      · show x.off + (cutS x.s _).size ≤ n
        rw [cutS_size _ _ (by omega)]; omega
      · exact this
    | cons y l =>
      simp only [lastTorn, List.mem_cons] at hw
      rcases hw with rfl | hw
      · exact h w (by simp)
      · exact ih (fun z hz => h z (by simp at hz ⊢; right; exact hz)) w (by simpa [lastTorn] using hw)
theorem kept_fit {n : Nat} {D : DiskD} (h : Inv n D) (keep : List Int) : ∀ w ∈ keptW D keep, w.off + w.s.size ≤ n := by
  intro w hw
  unfold keptW keptI at hw
  simp only [List.mem_map, List.mem_filter, List.mem_range] at hw
  obtain ⟨i, ⟨hi, -⟩, rfl⟩ := hw
  rw [List.getD_eq_getElem?_getD, List.getElem?_eq_getElem hi]
  exact h.fit _ (List.getElem_mem hi)
theorem crash_len {n : Nat} {D : DiskD} (h : Inv n D) (keep : List Int) (torn : Int) : (crashB D keep torn).length = n := foldl_len _ _ h.dur (torn_fit (kept_fit h keep))
theorem Inv.crash {n : Nat} {D : DiskD} (h : Inv n D) (keep : List Int) (torn : Int) : Inv n (crashD D keep torn) :=
  ⟨h.pos, h.most, crash_len h keep torn, rfl, by simp [crashD], by simp [crashD], by simp [crashD]⟩
theorem Inv.new {n : Nat} (h : 1 ≤ n) (h2 : n ≤ 4194304) : Inv n (newD n) := ⟨h, h2, by simp [newD], rfl, by simp [newD], by simp [newD], by simp [newD]⟩
end Go.Proofs.Ytfmdpmcniccioaa
