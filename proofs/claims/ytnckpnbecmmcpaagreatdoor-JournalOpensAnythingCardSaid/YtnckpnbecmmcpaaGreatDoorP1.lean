/- Plain: a digest, a chain of records, a journal's bytes, and what is read of them. No Go program in sight. -/
import Derived.Test.YtnckpnbecmmcpaaGreatDoorS7
import Derived.Test.YtnckpnbecmmcpaaGreatDoorMW
namespace Go.Proofs.YtnckpnbecmmcpaaGreatDoor
open Go.RowKit
open W01 (putsT putsE strN strE strC str_ext data_append)

/-! A digest. -/
theorem padL_bd (s : ByteArray) : ∀ x ∈ padL s, 0 ≤ x ∧ x < 256 := by
  intro x hx
  unfold padL at hx
  simp only [List.mem_append, List.mem_singleton, List.mem_replicate] at hx
  rcases hx with ((hx | rfl) | ⟨-, rfl⟩) | hx
  · unfold bytesI at hx
    simp only [List.mem_map] at hx
    obtain ⟨b, -, rfl⟩ := hx
    have := b.toNat_lt
    omega
  · omega
  · omega
  · unfold lenL at hx
    simp only [List.mem_map] at hx
    obtain ⟨k, -, rfl⟩ := hx
    unfold lenB
    have h1 := Int.emod_nonneg (8 * (s.size : Int) / 2 ^ (8 * (7 - k))) (show (256 : Int) ≠ 0 by decide)
    have h2 := Int.emod_lt_of_pos (8 * (s.size : Int) / 2 ^ (8 * (7 - k))) (show (0 : Int) < 256 by decide)
    omega
def padU (s : ByteArray) : List UInt8 := (padL s).map fun x => UInt8.ofNat x.toNat
theorem padU_len (s : ByteArray) : (padU s).length = (padL s).length := by simp [padU]
theorem padU_int (s : ByteArray) : (padU s).map (fun u : UInt8 => (u.toNat : Int)) = padL s := by
  unfold padU
  rw [List.map_map]
  have : ∀ x ∈ padL s, ((fun u : UInt8 => (u.toNat : Int)) ∘ fun x : Int => UInt8.ofNat x.toNat) x = x := fun x hx => by
    obtain ⟨h0, h1⟩ := padL_bd s x hx
    show ((UInt8.ofNat x.toNat).toNat : Int) = x
    rw [UInt8.toNat_ofNat']
    omega
  rw [List.map_congr_left this, List.map_id']
def blkU (s : ByteArray) (i : Nat) : List UInt8 := ((padU s).drop (64 * i)).take 64
def nblk (s : ByteArray) : Nat := (padL s).length / 64
theorem nblk_len (s : ByteArray) : (padL s).length = 64 * nblk s := by
  unfold nblk
  have := padL_mod s
  omega
theorem blkU_len {s : ByteArray} {i : Nat} (h : i < nblk s) : (blkU s i).length = 64 := by
  unfold blkU
  rw [List.length_take, List.length_drop, padU_len, nblk_len]
  omega
theorem blkU_get {s : ByteArray} {i j : Nat} (hj : j < 64) : (blkU s i)[j]? = (padU s)[64 * i + j]? := by
  unfold blkU
  rw [List.getElem?_take, if_pos hj, List.getElem?_drop]
def iv : V8 := ⟨0x6a09e667, 0xbb67ae85, 0x3c6ef372, 0xa54ff53a, 0x510e527f, 0x9b05688c, 0x1f83d9ab, 0x5be0cd19⟩
def hashV (s : ByteArray) : Nat → V8
  | 0 => iv
  | i + 1 => addB (hashV s i) (blkU s i)
def sumS (s : ByteArray) : ByteArray := digS (hashV s (nblk s))
theorem strOfNums_size' (l : List Int) : (strOfNums l).size = l.length := by simp [strOfNums, ByteArray.size]
theorem sumS_size (s : ByteArray) : (sumS s).size = 32 := by
  unfold sumS digS
  rw [strOfNums_size', digL_len]
theorem nblk_le (s : ByteArray) : nblk s ≤ s.size + 2 := by
  have := padL_len s
  have := padN_le s.size
  have := nblk_len s
  omega

/-! A chain of records. -/
def m1 : ByteArray := ⟨#[1]⟩
def m2 : ByteArray := ⟨#[2]⟩
def chainS (head record : ByteArray) : ByteArray := sumS (m2 ++ head ++ record)
def z32 : ByteArray := ⟨Array.replicate 32 0⟩
theorem z32_size : z32.size = 32 := rfl
def headS (l : List ByteArray) : ByteArray := l.foldl chainS z32
theorem chainS_size (h r : ByteArray) : (chainS h r).size = 32 := sumS_size _
theorem fold_size : ∀ (l : List ByteArray) (h : ByteArray), h.size = 32 → (l.foldl chainS h).size = 32
  | [], _, hh => hh
  | r :: l, h, _ => fold_size l _ (chainS_size h r)
theorem headS_size (l : List ByteArray) : (headS l).size = 32 := fold_size l z32 rfl
def storedS (head record : ByteArray) : ByteArray := m1 ++ putsT record ++ chainS head record
def tapeS : ByteArray → List ByteArray → ByteArray
  | _, [] => ⟨#[]⟩
  | h, r :: l => storedS h r ++ tapeS (chainS h r) l
theorem bts_append (a b : ByteArray) : bts (a ++ b) = bts a ++ bts b := data_append a b
theorem append_nil (a : ByteArray) : a ++ (⟨#[]⟩ : ByteArray) = a := str_ext (by rw [data_append]; simp)
theorem nil_append (a : ByteArray) : (⟨#[]⟩ : ByteArray) ++ a = a := str_ext (by rw [data_append]; simp)
theorem append_assoc (a b c : ByteArray) : a ++ b ++ c = a ++ (b ++ c) := str_ext (by simp [data_append])
theorem tapeS_append : ∀ (l m : List ByteArray) (h : ByteArray), tapeS h (l ++ m) = tapeS h l ++ tapeS (l.foldl chainS h) m
  | [], m, h => by rw [List.nil_append]; exact (nil_append _).symm
  | r :: l, m, h => by
    rw [List.cons_append]
    show storedS h r ++ tapeS (chainS h r) (l ++ m) = storedS h r ++ tapeS (chainS h r) l ++ _
    rw [tapeS_append l m (chainS h r), append_assoc]; rfl
theorem tapeS_snoc (l : List ByteArray) (r h : ByteArray) : tapeS h (l ++ [r]) = tapeS h l ++ storedS (l.foldl chainS h) r := by
  rw [tapeS_append]
  show _ ++ (storedS _ r ++ ⟨#[]⟩) = _
  rw [append_nil]
theorem putsT_size (r : ByteArray) (h : r.size ≤ 65536) : r.size + 1 ≤ (putsT r).size ∧ (putsT r).size ≤ r.size + 9 := by
  unfold putsT
  rw [if_pos h, ByteArray.size_append, W01.strOfNums_size]
  have := W01.enc_pos (W01.zig r.size)
  have := W01.enc_zig_len (n := (r.size : Int)) (by omega) (by omega)
  omega
theorem storedS_size (h r : ByteArray) : (storedS h r).size = 33 + (putsT r).size := by
  unfold storedS
  rw [ByteArray.size_append, ByteArray.size_append, chainS_size]
  show 1 + _ + 32 = _
  omega
def tapeN (l : List ByteArray) : Nat := (tapeS z32 l).size
theorem tape_size_any : ∀ (l : List ByteArray) (h h' : ByteArray), (tapeS h l).size = (tapeS h' l).size
  | [], _, _ => rfl
  | r :: l, h, h' => by
    show (storedS h r ++ tapeS (chainS h r) l).size = (storedS h' r ++ tapeS (chainS h' r) l).size
    rw [ByteArray.size_append, ByteArray.size_append, storedS_size, storedS_size, tape_size_any l (chainS h r) (chainS h' r)]
theorem tapeN_append (l m : List ByteArray) : tapeN (l ++ m) = tapeN l + tapeN m := by
  unfold tapeN
  rw [tapeS_append, ByteArray.size_append, tape_size_any m (l.foldl chainS z32) z32]
theorem tapeN_one (r : ByteArray) : tapeN [r] = 33 + (putsT r).size := by
  unfold tapeN
  show (storedS z32 r ++ ⟨#[]⟩).size = _
  rw [append_nil, storedS_size]
theorem tapeN_len : ∀ (l : List ByteArray), 33 * l.length ≤ tapeN l
  | [] => by simp
  | r :: l => by
    have := tapeN_append [r] l
    rw [List.singleton_append, tapeN_one] at this
    have := tapeN_len l
    simp only [List.length_cons]
    omega

/-! What is read of a content. -/
def byA (s : ByteArray) (i : Nat) : Nat := ((bts s).getD i 0).toNat
theorem byA_get {s : ByteArray} {i : Nat} (h : i < s.size) : byA s i = s[i].toNat := by
  unfold byA
  rw [List.getD_eq_getElem?_getD, W01.byte_some s i h]; rfl
structure RecOK (s head : ByteArray) (a : Nat) : Prop where
  mark : byA s a = 1
  str : strC s ((a : Int) + 1) = 0
  fit : strE s ((a : Int) + 1) + 32 ≤ s.size
  dig : s.extract (strE s ((a : Int) + 1)).toNat ((strE s ((a : Int) + 1)).toNat + 32) = chainS head (strN s ((a : Int) + 1))
noncomputable instance (s head : ByteArray) (a : Nat) : Decidable (RecOK s head a) := Classical.propDecidable _
noncomputable def loadF (s : ByteArray) : Nat → ByteArray → Nat → Option (List ByteArray × Nat)
  | 0, _, a => some ([], a)
  | f + 1, head, a => if a < s.size ∧ byA s a ≠ 0 then
      (if RecOK s head a then (loadF s f (chainS head (strN s ((a : Int) + 1))) ((strE s ((a : Int) + 1)).toNat + 32)).map fun x => (strN s ((a : Int) + 1) :: x.1, x.2)
      else none)
    else some ([], a)
theorem loadF_stop {s : ByteArray} {f : Nat} {head : ByteArray} {a : Nat} (h : ¬ (a < s.size ∧ byA s a ≠ 0)) : loadF s f head a = some ([], a) := by
  cases f with
  | zero => rfl
  | succ f => unfold loadF; rw [if_neg h]
/-- What a record that is read has. -/
theorem rec_facts {s head : ByteArray} {a : Nat} (ha : a < s.size) (h : RecOK s head a) :
    ∃ e : Nat, strE s ((a : Int) + 1) = e ∧ a + 1 < e ∧ e + 32 ≤ s.size ∧ (strN s ((a : Int) + 1)).size ≤ 65536 ∧ putsT (strN s ((a : Int) + 1)) = s.extract (a + 1) e := by
  have hc : ((a : Int) + 1) = ((a + 1 : Nat) : Int) := by omega
  have h1 := h.str
  have h2 := h.fit
  rw [hc] at h1 h2 ⊢
  rcases W01.str_unique s (a + 1) (by omega) with ⟨-, -, h10⟩ | ⟨v, e, e1, e2, -, e4, e5, -, e7, e8⟩
  · rw [h10] at h1; cases h1
  · rw [e1, e2]
    rw [e2] at h2
    exact ⟨e, rfl, e4, by omega, e8, e7⟩
theorem loadF_fuel {s : ByteArray} : ∀ (f g : Nat) (head : ByteArray) (a : Nat), s.size - a ≤ f → s.size - a ≤ g → loadF s f head a = loadF s g head a := by
  intro f
  induction f with
  | zero =>
    intro g head a hf _
    rw [loadF_stop (by omega), loadF_stop (by omega)]
  | succ f ih =>
    intro g head a hf hg
    cases g with
    | zero => rw [loadF_stop (by omega), loadF_stop (by omega)]
    | succ g =>
      unfold loadF
      split
      · rename_i hc
        split
        · rename_i hr
          obtain ⟨e, he, h1, h2, -, -⟩ := rec_facts hc.1 hr
          rw [he, Int.toNat_natCast, ih g _ (e + 32) (by omega) (by omega)]
        · rfl
      · rfl
noncomputable def loadA (s head : ByteArray) (a : Nat) : Option (List ByteArray × Nat) := loadF s (s.size - a) head a
noncomputable def loadS (s : ByteArray) : Option (List ByteArray × Nat) := loadA s z32 0
theorem loadA_stop {s head : ByteArray} {a : Nat} (h : ¬ (a < s.size ∧ byA s a ≠ 0)) : loadA s head a = some ([], a) := loadF_stop h
theorem loadA_bad {s head : ByteArray} {a : Nat} (h : a < s.size ∧ byA s a ≠ 0) (hr : ¬ RecOK s head a) : loadA s head a = none := by
  unfold loadA
  obtain ⟨f, hf⟩ : ∃ f, s.size - a = f + 1 := ⟨s.size - a - 1, by omega⟩
  rw [hf]; unfold loadF; rw [if_pos h, if_neg hr]
theorem loadA_step {s head : ByteArray} {a : Nat} (h : a < s.size) (hr : RecOK s head a) : loadA s head a = (loadA s (chainS head (strN s ((a : Int) + 1))) ((strE s ((a : Int) + 1)).toNat + 32)).map fun x => (strN s ((a : Int) + 1) :: x.1, x.2) := by
  obtain ⟨e, he, h1, h2, -, -⟩ := rec_facts h hr
  unfold loadA
  obtain ⟨f, hf⟩ : ∃ f, s.size - a = f + 1 := ⟨s.size - a - 1, by omega⟩
  rw [hf, loadF, if_pos ⟨h, by rw [hr.mark]; decide⟩, if_pos hr, he, Int.toNat_natCast, loadF_fuel f (s.size - (e + 32)) _ _ (by omega) (by omega)]
/-- A journal on the way: the records so far. -/
theorem load_snoc {s : ByteArray} {L : List ByteArray} {a : Nat} (h : a < s.size) (hr : RecOK s (headS L) a) (hi : loadS s = (loadA s (headS L) a).map fun x => (L ++ x.1, x.2)) :
    loadS s = (loadA s (headS (L ++ [strN s ((a : Int) + 1)])) ((strE s ((a : Int) + 1)).toNat + 32)).map fun x => (L ++ [strN s ((a : Int) + 1)] ++ x.1, x.2) := by
  rw [hi, loadA_step h hr, Option.map_map]
  have : headS (L ++ [strN s ((a : Int) + 1)]) = chainS (headS L) (strN s ((a : Int) + 1)) := by unfold headS; rw [List.foldl_append]; rfl
  rw [this]
  congr 1
  funext x
  simp
theorem headS_snoc (L : List ByteArray) (r : ByteArray) : headS (L ++ [r]) = chainS (headS L) r := by unfold headS; rw [List.foldl_append]; rfl
/-- What is stored is read again. -/
theorem drop_bts {s : ByteArray} {a b : Nat} {x r : List UInt8} (h : (bts s).drop a = x ++ r) (hb : b = a + x.length) : (bts s).drop b = r := by
  rw [hb, ← List.drop_drop, h, List.drop_left]
theorem byA_drop {s : ByteArray} {a : Nat} {x : UInt8} {r : List UInt8} (h : (bts s).drop a = x :: r) : a < s.size ∧ byA s a = x.toNat := by
  obtain ⟨hp, hb, -⟩ := W01.get_of_drop h
  exact ⟨hp, by rw [byA_get hp, hb]⟩
theorem extract_drop {s : ByteArray} {a : Nat} {x : ByteArray} {r : List UInt8} (h : (bts s).drop a = bts x ++ r) : s.extract a (a + x.size) = x := by
  apply str_ext
  rw [Lib.extract_data, show a + x.size - a = (bts x).length by rw [bts_len]; omega]
  show ((bts s).drop a).take _ = _
  rw [h, List.take_left]
theorem rec_ok {s head t : ByteArray} {a : Nat} {r : List UInt8} (ht : t.size ≤ 65536) (h : (bts s).drop a = bts (storedS head t) ++ r) :
    a < s.size ∧ byA s a = 1 ∧ strN s ((a : Int) + 1) = t ∧ strE s ((a : Int) + 1) = ((a + 1 + (putsT t).size : Nat) : Int) ∧ RecOK s head a := by
  have hs := storedS_size head t
  unfold storedS at h
  rw [bts_append, bts_append, List.append_assoc, List.append_assoc] at h
  obtain ⟨h1, h2⟩ := byA_drop (x := 1) (r := bts (putsT t) ++ (bts (chainS head t) ++ r)) h
  have hd := drop_bts (b := a + 1) h rfl
  obtain ⟨e1, e2, e3⟩ := W01.strV_at ht hd
  have hd2 := drop_bts (b := a + 1 + (putsT t).size) hd (by rw [bts_len])
  have hx := extract_drop hd2
  rw [chainS_size] at hx
  have hlen : (bts s).length - (a + 1 + (putsT t).size) = 32 + r.length := by
    have := congrArg List.length hd2
    rw [List.length_drop, List.length_append, bts_len, bts_len, chainS_size] at this
    rw [bts_len]; exact this
  rw [bts_len] at hlen
  have hc : ((a : Int) + 1) = ((a + 1 : Nat) : Int) := by omega
  rw [← hc] at e1 e2 e3
  refine ⟨h1, by rw [h2]; rfl, e1, e2, ⟨by rw [h2]; rfl, e3, by rw [e2]; omega, ?_⟩⟩
  rw [e1, e2, Int.toNat_natCast]
  exact hx
theorem load_tapeA {s : ByteArray} : ∀ (L : List ByteArray) (head : ByteArray) (a : Nat) (r : List UInt8), (∀ t ∈ L, t.size ≤ 65536) → (bts s).drop a = bts (tapeS head L) ++ r → (∀ x t, r = x :: t → x = 0) →
    loadA s head a = some (L, a + (tapeS head L).size)
  | [], head, a, r, _, h, hr => by
    have h' : (bts s).drop a = r := h
    refine loadA_stop ?_
    rintro ⟨h1, h2⟩
    cases r with
    | nil =>
      have := congrArg List.length h'
      rw [List.length_drop, bts_len, List.length_nil] at this
      omega
    | cons x t =>
      rw [hr x t rfl] at h'
      exact h2 (byA_drop h').2
  | t :: L, head, a, r, hL, h, hr => by
    have ht := hL t (by simp)
    have h2 : (bts s).drop a = bts (storedS head t) ++ (bts (tapeS (chainS head t) L) ++ r) := by
      rw [← List.append_assoc, ← bts_append]; exact h
    obtain ⟨h3, -, e1, e2, h5⟩ := rec_ok ht h2
    have hd := drop_bts (b := a + 1 + (putsT t).size + 32) h2 (by rw [bts_len, storedS_size]; omega)
    rw [loadA_step h3 h5, e1, e2, Int.toNat_natCast, load_tapeA L (chainS head t) _ r (fun x hx => hL x (by simp [hx])) hd hr]
    simp only [Option.map_some]
    congr 2
    show _ = a + (storedS head t ++ tapeS (chainS head t) L).size
    rw [ByteArray.size_append, storedS_size]
    omega
theorem load_tape {s : ByteArray} {L : List ByteArray} {r : List UInt8} (hL : ∀ t ∈ L, t.size ≤ 65536) (h : bts s = bts (tapeS z32 L) ++ r) (hr : ∀ x t, r = x :: t → x = 0) : loadS s = some (L, tapeN L) := by
  have := load_tapeA L z32 0 r hL (by rw [List.drop_zero]; exact h) hr
  rw [Nat.zero_add] at this
  exact this
/-- What is read is what was stored. -/
theorem stored_of {s head : ByteArray} {a : Nat} (ha : a < s.size) (h : RecOK s head a) :
    s.extract a ((strE s ((a : Int) + 1)).toNat + 32) = storedS head (strN s ((a : Int) + 1)) := by
  obtain ⟨e, he, h1, h2, h3, h4⟩ := rec_facts ha h
  have hd := h.dig
  rw [he, Int.toNat_natCast] at hd ⊢
  unfold storedS
  rw [← hd, h4]
  have hm : m1 = s.extract a (a + 1) := by
    apply str_ext
    rw [Lib.extract_data]
    show [1] = _
    rw [W01.drop_cons s a ha, show a + 1 - a = 1 by omega]
    have := h.mark
    rw [byA_get ha] at this
    simp only [List.take_succ_cons, List.take_zero]
    rw [show s[a] = 1 from UInt8.toNat_inj.1 this]
  rw [hm, W01.extract_add s a (a + 1) e (by omega) (by omega), W01.extract_add s a e (e + 32) (by omega) (by omega)]
theorem load_sound {s : ByteArray} : ∀ (n : Nat) (head : ByteArray) (a : Nat) (L : List ByteArray) (e : Nat), s.size - a ≤ n → a ≤ s.size → loadA s head a = some (L, e) →
    e ≤ s.size ∧ e = a + (tapeS head L).size ∧ s.extract a e = tapeS head L ∧ (∀ t ∈ L, t.size ≤ 65536) ∧ (e < s.size → byA s e = 0) := by
  intro n
  induction n with
  | zero =>
    intro head a L e hn ha h
    rw [loadA_stop (by omega)] at h
    cases h
    refine ⟨ha, rfl, str_ext (by simp [tapeS]), by simp, fun h => by omega⟩
  | succ n ih =>
    intro head a L e hn ha h
    by_cases hc : a < s.size ∧ byA s a ≠ 0
    · by_cases hr : RecOK s head a
      · rw [loadA_step hc.1 hr] at h
        obtain ⟨f, hf, h1, h2, h3, h4⟩ := rec_facts hc.1 hr
        have hst := stored_of hc.1 hr
        rw [hf, Int.toNat_natCast] at h hst
        cases hl : loadA s (chainS head (strN s ((a : Int) + 1))) (f + 32) with
        | none => rw [hl] at h; cases h
        | some x =>
          obtain ⟨M, e'⟩ := x
          rw [hl] at h
          simp only [Option.map_some, Option.some.injEq, Prod.mk.injEq] at h
          obtain ⟨rfl, rfl⟩ := h
          obtain ⟨i1, i2, i3, i4, i5⟩ := ih _ (f + 32) M e' (by omega) (by omega) hl
          have hsz : (storedS head (strN s ((a : Int) + 1))).size = f + 32 - a := by
            rw [← hst, ByteArray.size_extract]; omega
          refine ⟨i1, ?_, ?_, ?_, i5⟩
          · show e' = a + (storedS head (strN s ((a : Int) + 1)) ++ tapeS _ M).size
            rw [ByteArray.size_append, hsz]; omega
          · show _ = storedS head (strN s ((a : Int) + 1)) ++ tapeS _ M
            rw [← hst, ← i3, W01.extract_add s a (f + 32) e' (by omega) (by omega)]
          · intro t ht
            rcases List.mem_cons.1 ht with rfl | ht
            · exact h3
            · exact i4 t ht
      · rw [loadA_bad hc hr] at h; cases h
    · rw [loadA_stop hc] at h
      cases h
      refine ⟨ha, rfl, str_ext (by simp [tapeS]), by simp, fun hlt => ?_⟩
      exact Classical.byContradiction fun hne => hc ⟨hlt, hne⟩
theorem load_facts {s : ByteArray} {L : List ByteArray} {e : Nat} (h : loadS s = some (L, e)) : e ≤ s.size ∧ e = tapeN L ∧ s.extract 0 e = tapeS z32 L ∧ (∀ t ∈ L, t.size ≤ 65536) ∧ (e < s.size → byA s e = 0) := by
  have := load_sound s.size z32 0 L e (by omega) (by omega) h
  rw [Nat.zero_add] at this
  exact this
end Go.Proofs.YtnckpnbecmmcpaaGreatDoor
