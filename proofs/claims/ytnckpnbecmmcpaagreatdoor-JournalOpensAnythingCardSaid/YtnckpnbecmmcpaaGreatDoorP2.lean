/- Plain: a journal's calls, and what a loss of power leaves of them. No Go program in sight. -/
import Derived.Test.YtnckpnbecmmcpaaGreatDoorP1
import Derived.Test.YtnckpnbecmmcpaaGreatDoorMK2
namespace Go.Proofs.YtnckpnbecmmcpaaGreatDoor
open Go.RowKit
open W01 (putsT putsE strN strE strC str_ext data_append)

/-! Calls one behind the other, up to the first error. -/
abbrev DoD := DiskD → Int × DiskD
def wrO (o : Int) (s : ByteArray) : DoD := fun D => (writeE D o s, writeD D o s)
def syO : DoD := fun D => (syncE D, syncD D)
def seqD : List DoD → DiskD → Int × DiskD
  | [], D => (0, D)
  | f :: fs, D => if (f D).1 = 0 then seqD fs (f D).2 else f D
def zeroS (k : Nat) : ByteArray := ⟨Array.replicate k 0⟩
theorem zeroS_size (k : Nat) : (zeroS k).size = k := by simp [zeroS, ByteArray.size]
theorem zeroS_bts (k : Nat) : bts (zeroS k) = List.replicate k 0 := by simp [zeroS, bts]
def allZ (s : ByteArray) (e : Nat) : Bool := decide (s.extract e s.size = zeroS (s.size - e))
theorem allZ_iff {s : ByteArray} {e : Nat} : allZ s e = true ↔ (bts s).drop e = List.replicate (s.size - e) 0 := by
  unfold allZ
  rw [decide_eq_true_iff]
  have h : bts (s.extract e s.size) = (bts s).drop e := by
    show (s.extract e s.size).data.toList = _
    rw [Lib.extract_data]
    exact List.take_of_length_le (by rw [List.length_drop]; show (bts s).length - e ≤ _; rw [bts_len]; omega)
  constructor
  · intro he
    rw [← h, he, zeroS_bts]
  · intro he
    apply str_ext
    show bts _ = bts _
    rw [h, he, zeroS_bts]

/-! A journal. -/
structure JouD where
  L : List ByteArray
  broken : Bool
def outS (L l : List ByteArray) : ByteArray := tapeS (headS L) l
theorem outS_tape (L l : List ByteArray) : tapeS z32 (L ++ l) = tapeS z32 L ++ outS L l := tapeS_append L l z32
theorem outS_size (L l : List ByteArray) : (outS L l).size = tapeN l := tape_size_any _ _ _
def app4 (L l : List ByteArray) : List DoD := [wrO ((tapeN L : Int) + 1) ((outS L l).extract 1 (outS L l).size), syO, wrO (tapeN L) ((outS L l).extract 0 1), syO]
def longB (l : List ByteArray) : Bool := l.any fun t => decide (65536 < t.size)
def appE (n : Nat) (J : JouD) (D : DiskD) (l : List ByteArray) : Int :=
  if J.broken = true ∨ longB l = true then 340
  else if (n : Int) - (tapeN J.L : Int) < ((outS J.L l).size : Int) then 341
  else if (outS J.L l).size = 0 then 0
  else (seqD (app4 J.L l) D).1
def appJ (n : Nat) (J : JouD) (D : DiskD) (l : List ByteArray) : JouD :=
  if J.broken = true ∨ longB l = true then J
  else if (n : Int) - (tapeN J.L : Int) < ((outS J.L l).size : Int) then J
  else if (outS J.L l).size = 0 then J
  else if (seqD (app4 J.L l) D).1 = 0 then ⟨J.L ++ l, J.broken⟩ else ⟨J.L, true⟩
def appD (n : Nat) (J : JouD) (D : DiskD) (l : List ByteArray) : DiskD :=
  if J.broken = true ∨ longB l = true then D
  else if (n : Int) - (tapeN J.L : Int) < ((outS J.L l).size : Int) then D
  else if (outS J.L l).size = 0 then D
  else (seqD (app4 J.L l) D).2
/-- What Open answers: the error, the disk behind it, and the records (where there is no error). -/
def trim2 (n e : Nat) : List DoD := [wrO (e : Int) (zeroS (n - e)), syO]
noncomputable def openE (n : Nat) (D : DiskD) : Int :=
  if readE D 0 n ≠ 0 then readE D 0 n
  else match loadS (readS D 0 n) with
  | none => 342
  | some (_, e) => if allZ (readS D 0 n) e = true then 0 else (seqD (trim2 n e) D).1
noncomputable def openD (n : Nat) (D : DiskD) : DiskD :=
  if readE D 0 n ≠ 0 then D
  else match loadS (readS D 0 n) with
  | none => D
  | some (_, e) => if allZ (readS D 0 n) e = true then D else (seqD (trim2 n e) D).2
noncomputable def openL (n : Nat) (D : DiskD) : List ByteArray :=
  match loadS (readS D 0 n) with
  | none => []
  | some (L, _) => L

/-! Contents. -/
def zl (k : Nat) : List UInt8 := List.replicate k 0
/-- A content of which a list of records is read. -/
def Reads (n : Nat) (L : List ByteArray) (b : List UInt8) : Prop := b.length = n ∧ (∀ t ∈ L, t.size ≤ 65536) ∧ ∃ r, b = bts (tapeS z32 L) ++ r ∧ ∀ x t, r = x :: t → x = 0
def Full (n : Nat) (L : List ByteArray) (b : List UInt8) : Prop := (∀ t ∈ L, t.size ≤ 65536) ∧ tapeN L ≤ n ∧ b = bts (tapeS z32 L) ++ zl (n - tapeN L)
theorem Full.len {n : Nat} {L : List ByteArray} {b : List UInt8} (h : Full n L b) : b.length = n := by
  obtain ⟨-, h1, rfl⟩ := h
  rw [List.length_append, bts_len, zl, List.length_replicate]
  show tapeN L + _ = n
  omega
theorem Full.reads {n : Nat} {L : List ByteArray} {b : List UInt8} (h : Full n L b) : Reads n L b :=
  ⟨h.len, h.1, _, h.2.2, fun x t e => by
    have : x ∈ zl (n - tapeN L) := by rw [e]; simp
    exact List.eq_of_mem_replicate this⟩
theorem Reads.load {n : Nat} {L : List ByteArray} {b : List UInt8} (h : Reads n L b) : loadS (strOf b) = some (L, tapeN L) := by
  obtain ⟨-, h1, r, h2, h3⟩ := h
  exact load_tape h1 (r := r) (by rw [← h2]; simp [bts, strOf]) h3
theorem Reads.fit {n : Nat} {L : List ByteArray} {b : List UInt8} (h : Reads n L b) : tapeN L ≤ n := by
  obtain ⟨h0, -, r, h2, -⟩ := h
  rw [h2, List.length_append, bts_len] at h0
  unfold tapeN
  omega
/-- A journal's disk with power, all of it durable. -/
structure Good (n : Nat) (L : List ByteArray) (D : DiskD) : Prop where
  inv : Inv n D
  on : D.off = false
  pend : D.pend = []
  full : Full n L D.vis
theorem Good.dur {n : Nat} {L : List ByteArray} {D : DiskD} (h : Good n L D) : D.dur = D.vis := by rw [h.inv.vis, h.pend]; rfl
/-- A disk without power: what a crash leaves is one of two lists of records. -/
structure Half (n : Nat) (L M : List ByteArray) (D : DiskD) : Prop where
  inv : Inv n D
  off : D.off = true
  one : D.pend.length ≤ 1
  crash : ∀ kl torn, Reads n L (crashB D kl torn) ∨ Reads n M (crashB D kl torn)
theorem crash_none {D : DiskD} (h : D.pend = []) (kl : List Int) (torn : Int) : crashB D kl torn = D.dur := by
  unfold crashB keptW keptI
  rw [h]
  rfl
theorem crash_one {D : DiskD} {w : WrD} (h : D.pend = [w]) (kl : List Int) (torn : Int) : crashB D kl torn = D.dur ∨ ∃ k, k ≤ w.s.size ∧ crashB D kl torn = putB D.dur w.off ((bts w.s).take k) := by
  unfold crashB keptW keptI
  rw [h]
  by_cases hm : ((0 : Nat) : Int) ∈ kl
  · have e : (List.filter (fun i : Nat => decide ((i : Int) ∈ kl)) (List.range [w].length)) = [0] := by
      show List.filter _ [0] = [0]
      rw [List.filter_cons_of_pos (by simpa using hm)]; rfl
    rw [e]
    show (lastTorn torn [w]).foldl ontoW D.dur = _ ∨ ∃ k, _ ∧ (lastTorn torn [w]).foldl ontoW D.dur = _
    right
    show ∃ k, k ≤ w.s.size ∧ ontoW D.dur (tornW torn w) = _
    unfold tornW
    split
    · refine ⟨min torn.toNat w.s.size, by omega, ?_⟩
      unfold ontoW
      show putB D.dur w.off (bts (cutS w.s _)) = _
      congr 1
      unfold cutS
      show (ByteArray.extract _ _ _).data.toList = _
      rw [Lib.extract_data]
      simp
    · refine ⟨w.s.size, Nat.le_refl _, ?_⟩
      unfold ontoW
      rw [← bts_len, List.take_length]
  · left
    have e : (List.filter (fun i : Nat => decide ((i : Int) ∈ kl)) (List.range [w].length)) = [] := by
      show List.filter _ [0] = []
      rw [List.filter_cons_of_neg (by simpa using hm)]; rfl
    rw [e]; rfl
theorem putB_app {x y z s : List UInt8} (h : s.length = y.length) : putB (x ++ y ++ z) x.length s = x ++ s ++ z := by
  unfold putB
  rw [List.append_assoc x y z, List.take_left, ← List.drop_drop, List.drop_left, h, List.drop_left]
theorem zl_add (a b : Nat) : zl (a + b) = zl a ++ zl b := by unfold zl; rw [List.replicate_append_replicate]
theorem write_at {n : Nat} {D : DiskD} (hI : Inv n D) (ho : D.off = false) (o : Nat) (s : ByteArray) (hf : o + s.size ≤ n) :
    writeE D o s = 0 ∧ Inv n (writeD D o s) ∧ (writeD D o s).vis = putB D.vis o (bts s) ∧ (writeD D o s).dur = D.dur ∧ (writeD D o s).pend = D.pend ++ [⟨o, s⟩] := by
  have e : writeE D o s = 0 := by
    unfold writeE
    rw [ho, hI.dur]
    have : insideB n (o : Int) (s.size : Int) = true := inside_iff.2 ⟨by omega, by omega, by omega, by omega⟩
    rw [this]; rfl
  refine ⟨e, hI.write _ _, ?_, ?_, ?_⟩ <;>
  · unfold writeD usedD
    rw [if_pos e]
    split <;> simp
theorem sync_at {n : Nat} {D : DiskD} (hI : Inv n D) (ho : D.off = false) : syncE D = 0 ∧ Inv n (syncD D) ∧ (syncD D).off = false ∧ (syncD D).vis = D.vis ∧ (syncD D).dur = D.vis ∧ (syncD D).pend = [] := by
  have e : syncD D = { D with dur := D.vis, pend := [] } := by unfold syncD; rw [ho]; rfl
  exact ⟨by unfold syncE; rw [ho]; rfl, hI.sync, by rw [e]; exact ho, by rw [e], by rw [e], by rw [e]⟩
theorem tape_cons {L l : List ByteArray} (hl : l ≠ []) : ∃ x : ByteArray, bts (outS L l) = 1 :: bts x ∧ (outS L l).extract 1 (outS L l).size = x ∧ bts ((outS L l).extract 0 1) = [1] ∧ (outS L l).size = x.size + 1 ∧ 32 ≤ x.size := by
  cases l with
  | nil => exact absurd rfl hl
  | cons t l =>
    have hd : bts (outS L (t :: l)) = 1 :: (bts (putsT t) ++ bts (chainS (headS L) t) ++ bts (tapeS (chainS (headS L) t) l)) := by
      show bts (storedS (headS L) t ++ _) = _
      unfold storedS
      rw [bts_append, bts_append, bts_append]
      rfl
    have hs : (outS L (t :: l)).size = (bts (outS L (t :: l))).length := (bts_len _).symm
    have hx : bts ((outS L (t :: l)).extract 1 (outS L (t :: l)).size) = bts (putsT t) ++ bts (chainS (headS L) t) ++ bts (tapeS (chainS (headS L) t) l) := by
      show (ByteArray.extract _ _ _).data.toList = _
      rw [Lib.extract_data]
      show ((bts _).drop 1).take _ = _
      rw [hs, hd, List.drop_succ_cons, List.drop_zero]
      exact List.take_of_length_le (by simp)
    have hy : bts ((outS L (t :: l)).extract 0 1) = [1] := by
      show (ByteArray.extract _ _ _).data.toList = _
      rw [Lib.extract_data]
      show ((bts _).drop 0).take _ = _
      rw [hd]
      simp
    have hz : (outS L (t :: l)).size = ((outS L (t :: l)).extract 1 (outS L (t :: l)).size).size + 1 := by
      rw [ByteArray.size_extract, hs, hd]
      simp
    refine ⟨_, by rw [hd, hx], rfl, hy, hz, ?_⟩
    have h3 := outS_size L (t :: l)
    have h4 := tapeN_append [t] l
    rw [List.singleton_append, tapeN_one] at h4
    have h5 : 33 ≤ tapeN [t] := by rw [tapeN_one]; omega
    omega
/-- A group is appended to a sound journal. -/
theorem append_good {n : Nat} {L l : List ByteArray} {D : DiskD} (h : Good n L D) (hl : ∀ t ∈ l, t.size ≤ 65536) (hne : l ≠ []) (hf : tapeN L + tapeN l ≤ n) :
    ((seqD (app4 L l) D).1 = 0 ∧ Good n (L ++ l) (seqD (app4 L l) D).2) ∨ ((seqD (app4 L l) D).1 = 331 ∧ Half n L (L ++ l) (seqD (app4 L l) D).2) := by
  obtain ⟨x, h1, h2, h3, h4, h5⟩ := tape_cons (L := L) hne
  have hs := outS_size L l
  obtain ⟨f1, f2, f3⟩ := h.full
  have hLl : ∀ t ∈ L ++ l, t.size ≤ 65536 := fun t ht => by
    rcases List.mem_append.1 ht with ht | ht
    · exact f1 t ht
    · exact hl t ht
  obtain ⟨y, hy⟩ : ∃ y, (outS L l).extract 0 1 = y := ⟨_, rfl⟩
  have hys : y.size = 1 := by rw [← hy, ByteArray.size_extract, h4]; omega
  rw [hy] at h3
  have hM : bts (tapeS z32 (L ++ l)) = bts (tapeS z32 L) ++ [1] ++ bts x := by
    rw [outS_tape, bts_append, h1]; simp
  have hMn : tapeN (L ++ l) = tapeN L + 1 + x.size := by rw [tapeN_append, ← hs, h4]; omega
  have hMl := tapeN_append L l
  obtain ⟨A, hA⟩ : ∃ A, bts (tapeS z32 L) = A := ⟨_, rfl⟩
  have hAl : A.length = tapeN L := by rw [← hA, bts_len]; rfl
  rw [hA] at f3 hM
  have hz : zl (n - tapeN L) = [0] ++ zl x.size ++ zl (n - tapeN (L ++ l)) := by
    rw [show n - tapeN L = 1 + x.size + (n - tapeN (L ++ l)) by omega, zl_add, zl_add]; rfl
  have hv0 : D.vis = A ++ [0] ++ zl x.size ++ zl (n - tapeN (L ++ l)) := by rw [f3, hz]; simp
  -- what stands behind a first byte that is zero
  have hR : ∀ s : List UInt8, s.length + 1 + A.length = n → Reads n L (A ++ [0] ++ s) := fun s hsl =>
    ⟨by simp; omega, f1, 0 :: s, by rw [hA]; simp, fun x t e => by cases e; rfl⟩
  have hput1 : ∀ k, k ≤ x.size → putB D.vis (tapeN L + 1) ((bts x).take k) = A ++ [0] ++ ((bts x).take k ++ zl (x.size - k) ++ zl (n - tapeN (L ++ l))) := fun k hk => by
    have e : D.vis = (A ++ [0]) ++ zl k ++ (zl (x.size - k) ++ zl (n - tapeN (L ++ l))) := by
      rw [hv0]
      conv => lhs; rw [show x.size = k + (x.size - k) by omega, zl_add]
      simp
    rw [e, show tapeN L + 1 = (A ++ [0]).length by simp [hAl], putB_app (by rw [List.length_take, bts_len]; simp [zl]; omega)]
    simp
  have hfull : (bts x).take x.size = bts x := by rw [← bts_len x, List.take_length]
  have hp1 : putB D.vis (tapeN L + 1) (bts x) = A ++ [0] ++ (bts x ++ zl (n - tapeN (L ++ l))) := by
    have := hput1 x.size (Nat.le_refl _)
    rw [hfull, Nat.sub_self] at this
    simpa [zl] using this
  -- the first write
  obtain ⟨a1, a2, a3, a4, a5⟩ := write_at h.inv h.on (tapeN L + 1) x (by omega)
  rw [h.pend, List.nil_append] at a5
  rw [hp1] at a3
  rw [h.dur] at a4
  unfold app4
  rw [h2, hy]
  have hc1 : ((tapeN L : Int) + 1) = ((tapeN L + 1 : Nat) : Int) := by omega
  rw [hc1]
  unfold seqD
  rw [if_pos (show (wrO ((tapeN L + 1 : Nat) : Int) x D).1 = 0 from a1)]
  show (seqD [syO, wrO (tapeN L) y, syO] (writeD D ((tapeN L + 1 : Nat) : Int) x)).1 = 0 ∧ _ ∨ (seqD [syO, wrO (tapeN L) y, syO] (writeD D ((tapeN L + 1 : Nat) : Int) x)).1 = 331 ∧ _
  show _ ∧ Good n (L ++ l) (seqD [syO, wrO (tapeN L) y, syO] (writeD D ((tapeN L + 1 : Nat) : Int) x)).2 ∨ _ ∧ Half n L (L ++ l) (seqD [syO, wrO (tapeN L) y, syO] (writeD D ((tapeN L + 1 : Nat) : Int) x)).2
  generalize writeD D ((tapeN L + 1 : Nat) : Int) x = D1 at a2 a3 a4 a5 ⊢
  have hlen : D.vis.length = n := h.inv.visLen
  cases ho1 : D1.off with
  | true =>
    right
    have e1 : syncE D1 = 331 := by unfold syncE; rw [ho1]; rfl
    have e2 : syncD D1 = D1 := by unfold syncD; rw [ho1]; rfl
    unfold seqD
    rw [if_neg (show ¬ (syO D1).1 = 0 by show ¬ syncE D1 = 0; rw [e1]; decide)]
    refine ⟨e1, ?_⟩
    show Half n L (L ++ l) (syncD D1)
    rw [e2]
    refine ⟨a2, ho1, by rw [a5]; simp, fun kl torn => .inl ?_⟩
    rcases crash_one a5 kl torn with e | ⟨k, hk, e⟩
    · rw [e, a4, hv0, List.append_assoc]
      exact hR _ (by rw [hv0] at hlen; simp at hlen ⊢; omega)
    · rw [e, a4]
      show Reads n L (putB D.vis (tapeN L + 1) _)
      rw [hput1 k hk]
      refine hR _ ?_
      have hk' : k ≤ x.size := hk
      simp only [List.length_append, List.length_take, bts_len, zl, List.length_replicate]
      omega
  | false =>
    obtain ⟨b1, b2, b3, b4, b5, b6⟩ := sync_at a2 ho1
    unfold seqD
    rw [if_pos (show (syO D1).1 = 0 from b1)]
    show (seqD [wrO (tapeN L) y, syO] (syncD D1)).1 = 0 ∧ Good n (L ++ l) (seqD [wrO (tapeN L) y, syO] (syncD D1)).2 ∨ (seqD [wrO (tapeN L) y, syO] (syncD D1)).1 = 331 ∧ Half n L (L ++ l) (seqD [wrO (tapeN L) y, syO] (syncD D1)).2
    rw [a3] at b4 b5
    generalize syncD D1 = D2 at b2 b3 b4 b5 b6 ⊢
    obtain ⟨c1, c2, c3, c4, c5⟩ := write_at b2 b3 (tapeN L) y (by omega)
    rw [b6, List.nil_append] at c5
    have hp2 : putB (A ++ [0] ++ (bts x ++ zl (n - tapeN (L ++ l)))) (tapeN L) (bts y) = bts (tapeS z32 (L ++ l)) ++ zl (n - tapeN (L ++ l)) := by
      have := putB_app (x := A) (y := [0]) (z := bts x ++ zl (n - tapeN (L ++ l))) (s := [1]) rfl
      rw [h3, ← hAl, this, hM]
      simp
    rw [b4, hp2] at c3
    rw [b5] at c4
    have hFM : Full n (L ++ l) (bts (tapeS z32 (L ++ l)) ++ zl (n - tapeN (L ++ l))) := ⟨hLl, by omega, rfl⟩
    unfold seqD
    rw [if_pos (show (wrO (tapeN L : Int) y D2).1 = 0 from c1)]
    show (seqD [syO] (writeD D2 (tapeN L : Int) y)).1 = 0 ∧ Good n (L ++ l) (seqD [syO] (writeD D2 (tapeN L : Int) y)).2 ∨ (seqD [syO] (writeD D2 (tapeN L : Int) y)).1 = 331 ∧ Half n L (L ++ l) (seqD [syO] (writeD D2 (tapeN L : Int) y)).2
    generalize writeD D2 (tapeN L : Int) y = D3 at c2 c3 c4 c5 ⊢
    cases ho3 : D3.off with
    | true =>
      right
      have e1 : syncE D3 = 331 := by unfold syncE; rw [ho3]; rfl
      have e2 : syncD D3 = D3 := by unfold syncD; rw [ho3]; rfl
      unfold seqD
      rw [if_neg (show ¬ (syO D3).1 = 0 by show ¬ syncE D3 = 0; rw [e1]; decide)]
      refine ⟨e1, ?_⟩
      show Half n L (L ++ l) (syncD D3)
      rw [e2]
      have hno : Reads n L D3.dur := by
        rw [c4]
        exact hR _ (by rw [List.length_append, bts_len, zl, List.length_replicate]; omega)
      refine ⟨c2, ho3, by rw [c5]; simp, fun kl torn => ?_⟩
      rcases crash_one c5 kl torn with e | ⟨k, hk, e⟩
      · rw [e]; exact .inl hno
      · have hk' : k ≤ y.size := hk
        have hk1 : k = 0 ∨ k = 1 := by omega
        rcases hk1 with rfl | rfl
        · left
          rw [e]
          show Reads n L (putB D3.dur (tapeN L) ((bts y).take 0))
          rw [List.take_zero]
          have : putB D3.dur (tapeN L) [] = D3.dur := by unfold putB; simp
          rw [this]; exact hno
        · right
          rw [e]
          show Reads n (L ++ l) (putB D3.dur (tapeN L) ((bts y).take 1))
          rw [c4, List.take_of_length_le (by rw [bts_len]; omega), hp2]
          exact hFM.reads
    | false =>
      left
      obtain ⟨d1, d2, d3, d4, d5, d6⟩ := sync_at c2 ho3
      unfold seqD
      rw [if_pos (show (syO D3).1 = 0 from d1)]
      refine ⟨rfl, ?_⟩
      show Good n (L ++ l) (syncD D3)
      exact ⟨d2, d3, d6, by rw [d4, c3]; exact hFM⟩
/-- What a crash leaves is opened. -/
theorem open_reads {n : Nat} {K : List ByteArray} {D : DiskD} (hI : Inv n D) (ho : D.off = false) (hl : D.left = 0) (hp : D.pend = []) (h : Reads n K D.vis) :
    openE n D = 0 ∧ openL n D = K ∧ Good n K (openD n D) ∧ (openD n D).left = 0 := by
  have hOn : OnD n D := ⟨hI, ho, hl⟩
  obtain ⟨r1, r2⟩ := on_read hOn
  have hload := h.load
  have hfit := h.fit
  unfold openE openL openD
  rw [if_neg (by rw [r1]; decide), if_neg (by rw [r1]; decide), r2, hload]
  simp only
  have hsz : (strOf D.vis).size = n := by
    show (strOf D.vis).data.size = n
    unfold strOf
    rw [List.size_toArray]
    exact hI.visLen
  have hb : bts (strOf D.vis) = D.vis := by simp [bts, strOf]
  obtain ⟨hn, hL, r, hr, -⟩ := h
  cases hz : allZ (strOf D.vis) (tapeN K) with
  | true =>
    simp only [if_true]
    refine ⟨trivial, trivial, ⟨hI, ho, hp, hL, hfit, ?_⟩, hl⟩
    have := allZ_iff.1 hz
    rw [hb, hsz, hr, show tapeN K = (bts (tapeS z32 K)).length by rw [bts_len]; rfl, List.drop_left] at this
    rw [hr, this]; rfl
  | false =>
    simp only [Bool.false_eq_true, if_false]
    obtain ⟨a1, a2, a3, a4, a5⟩ := on_write hOn (tapeN K) (zeroS (n - tapeN K)) (by rw [zeroS_size]; omega)
    obtain ⟨b1, b2, b3, b4, b5⟩ := on_sync a2
    unfold trim2 seqD
    rw [if_pos (show (wrO (tapeN K : Int) (zeroS (n - tapeN K)) D).1 = 0 from a1)]
    show (seqD [syO] (writeD D (tapeN K : Int) (zeroS (n - tapeN K)))).1 = 0 ∧ _ ∧ Good n K (seqD [syO] (writeD D (tapeN K : Int) (zeroS (n - tapeN K)))).2 ∧ (seqD [syO] (writeD D (tapeN K : Int) (zeroS (n - tapeN K)))).2.left = 0
    unfold seqD
    rw [if_pos (show (syO (writeD D (tapeN K : Int) (zeroS (n - tapeN K)))).1 = 0 from b1)]
    refine ⟨rfl, trivial, ⟨b2.inv, b2.on, b5, hL, hfit, ?_⟩, b2.left⟩
    show (syncD _).vis = _
    have hrl : r.length = n - tapeN K := by
      rw [hr, List.length_append, bts_len] at hn
      unfold tapeN; omega
    rw [b3, a3, hr, zeroS_bts, show tapeN K = (bts (tapeS z32 K)).length by rw [bts_len]; rfl]
    have := putB_app (x := bts (tapeS z32 K)) (y := r) (z := []) (s := List.replicate (n - (bts (tapeS z32 K)).length) 0) (by rw [List.length_replicate, hrl, bts_len]; rfl)
    rw [List.append_nil, List.append_nil] at this
    exact this
theorem Good.crash {n : Nat} {L : List ByteArray} {D : DiskD} (h : Good n L D) (kl : List Int) (torn : Int) : Reads n L (crashB D kl torn) := by
  rw [crash_none h.pend, h.dur]; exact h.full.reads
theorem open_crash {n : Nat} {K : List ByteArray} {D : DiskD} {kl : List Int} {torn : Int} (hI : Inv n D) (h : Reads n K (crashB D kl torn)) :
    openE n (crashD D kl torn) = 0 ∧ openL n (crashD D kl torn) = K ∧ Good n K (openD n (crashD D kl torn)) ∧ (openD n (crashD D kl torn)).left = 0 :=
  open_reads (hI.crash kl torn) rfl rfl rfl h
theorem Good.new {n : Nat} (h : 1 ≤ n) (h2 : n ≤ 4194304) : Good n [] (newD n) :=
  ⟨Inv.new h h2, rfl, rfl, by simp, Nat.zero_le _, by show List.replicate n 0 = [] ++ zl (n - 0); rw [List.nil_append]; rfl⟩
theorem Good.cut {n : Nat} {L : List ByteArray} {D : DiskD} (h : Good n L D) (k : Int) (h1 : 1 ≤ k) (h2 : k ≤ 9223372036854775807) : Good n L (cutD D k) := by
  have e : cutD D k = { D with off := false, left := k } := by
    unfold cutD cutE
    rw [h.on]
    simp only [Bool.false_eq_true, if_false]
    rw [if_neg (show ¬ k < 0 by omega), if_pos rfl]
    have : decide (k = 0) = false := by simp; omega
    rw [this]
  refine ⟨h.inv.cut k h2, by rw [e], by rw [e]; exact h.pend, by rw [e]; exact h.full⟩
theorem Half.cut {n : Nat} {L M : List ByteArray} {D : DiskD} (h : Half n L M D) (k : Int) : cutD D k = D := by
  unfold cutD cutE
  rw [h.off]
  rfl
/-- Append at a sound journal. -/
theorem app_good {n : Nat} {L l : List ByteArray} {D : DiskD} (h : Good n L D) (hl : ∀ t ∈ l, t.size ≤ 65536) :
    (appE n ⟨L, false⟩ D l = 0 ∧ appJ n ⟨L, false⟩ D l = ⟨L ++ l, false⟩ ∧ Good n (L ++ l) (appD n ⟨L, false⟩ D l)) ∨
    (appE n ⟨L, false⟩ D l = 341 ∧ appJ n ⟨L, false⟩ D l = ⟨L, false⟩ ∧ appD n ⟨L, false⟩ D l = D) ∨
    (appE n ⟨L, false⟩ D l = 331 ∧ appJ n ⟨L, false⟩ D l = ⟨L, true⟩ ∧ Half n L (L ++ l) (appD n ⟨L, false⟩ D l)) := by
  have hb : longB l = false := by
    unfold longB
    rw [List.any_eq_false]
    intro t ht
    have := hl t ht
    simp; omega
  unfold appE appJ appD
  simp only [hb, Bool.false_eq_true, or_self, if_false]
  by_cases hf : (n : Int) - (tapeN L : Int) < ((outS L l).size : Int)
  · right; left
    rw [if_pos hf, if_pos hf, if_pos hf]
    exact ⟨rfl, rfl, rfl⟩
  · rw [if_neg hf, if_neg hf, if_neg hf]
    have hs := outS_size L l
    by_cases h0 : (outS L l).size = 0
    · left
      rw [if_pos h0, if_pos h0, if_pos h0]
      have : l = [] := by
        have := tapeN_len l
        cases l with
        | nil => rfl
        | cons t l => simp only [List.length_cons] at this; omega
      subst this
      rw [List.append_nil]
      exact ⟨rfl, rfl, h⟩
    · rw [if_neg h0, if_neg h0, if_neg h0]
      have hne : l ≠ [] := fun e => by subst e; exact h0 rfl
      have hfit := h.full.2.1
      rcases append_good h hl hne (by omega) with ⟨e, hg⟩ | ⟨e, hg⟩
      · left
        rw [if_pos e]
        exact ⟨e, rfl, hg⟩
      · right; right
        rw [if_neg (by rw [e]; decide)]
        exact ⟨e, rfl, hg⟩
theorem app_broken {n : Nat} {L l : List ByteArray} {D : DiskD} : appE n ⟨L, true⟩ D l = 340 ∧ appJ n ⟨L, true⟩ D l = ⟨L, true⟩ ∧ appD n ⟨L, true⟩ D l = D := by
  unfold appE appJ appD
  simp
end Go.Proofs.YtnckpnbecmmcpaaGreatDoor
