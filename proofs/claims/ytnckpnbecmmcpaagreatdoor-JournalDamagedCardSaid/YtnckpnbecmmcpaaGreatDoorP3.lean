/- Plain: a journal of which a byte is changed. No Go program in sight. -/
import Derived.Test.YtnckpnbecmmcpaaGreatDoorP2
namespace Go.Proofs.YtnckpnbecmmcpaaGreatDoor
open Go.RowKit
open W01 (putsT putsE strN strE strC str_ext data_append encT)

/-- The strings of which the heads of records are computed. -/
def headsL : ByteArray → List ByteArray → List ByteArray
  | _, [] => []
  | h, t :: l => (m2 ++ h ++ t) :: headsL (chainS h t) l
theorem headsL_len : ∀ (l : List ByteArray) (h : ByteArray), (headsL h l).length = l.length
  | [], _ => rfl
  | _ :: l, _ => by simp [headsL, headsL_len l]
def Collide (h : ByteArray) (L M : List ByteArray) : Prop := ∃ (i : Nat) (a b : ByteArray), (headsL h L)[i]? = some a ∧ (headsL h M)[i]? = some b ∧ a ≠ b ∧ sumS a = sumS b
/-- Is a byte one of the length of a record? -/
def sizedB : List ByteArray → Int → Bool
  | [], _ => false
  | t :: l, k => (decide (1 ≤ k) && decide (k ≤ ((encT t.size).size : Int))) || sizedB l (k - (33 + ((encT t.size).size : Int) + (t.size : Int)))
theorem putsT_split (t : ByteArray) (ht : t.size ≤ 65536) : putsT t = encT t.size ++ t := by
  unfold putsT
  rw [if_pos ht, (W01.encT_eq (n := (t.size : Int)) (by omega) (by omega)).1]
theorem encT_pos (t : ByteArray) (ht : t.size ≤ 65536) : 1 ≤ (encT (t.size : Int)).size := by
  rw [(W01.encT_eq (n := (t.size : Int)) (by omega) (by omega)).1, W01.strOfNums_size]
  exact W01.enc_pos _
theorem set_right {x y : List UInt8} {k : Nat} (c : UInt8) (h : x.length ≤ k) : (x ++ y).set k c = x ++ y.set (k - x.length) c := List.set_append_right _ _ h
theorem set_left {x y : List UInt8} {k : Nat} (c : UInt8) (h : k < x.length) : (x ++ y).set k c = x.set k c ++ y := List.set_append_left _ _ h
def Changed (c : UInt8) (h : ByteArray) (L M : List ByteArray) : Prop := (c = 0 ∧ M.length < L.length ∧ M = L.take M.length) ∨ Collide h L M
theorem damaged {s : ByteArray} {c : UInt8} : ∀ (L : List ByteArray) (h : ByteArray) (a k : Nat) (r : List UInt8) (M : List ByteArray) (e : Nat), (∀ t ∈ L, t.size ≤ 65536) →
    (bts s).drop a = (bts (tapeS h L) ++ r).set k c → k < (tapeS h L).size → (bts (tapeS h L))[k]? ≠ some c → sizedB L k = false → loadA s h a = some (M, e) → Changed c h L M
  | [], h, a, k, r, M, e, _, _, hk, _, _, _ => by
    have : (tapeS h []).size = 0 := rfl
    omega
  | t :: L, h, a, k, r, M, e, hL, hd, hk, hc, hs, hl => by
    have ht := hL t (by simp)
    have hsz := storedS_size h t
    have hps := putsT_split t ht
    have hpz : (putsT t).size = (encT t.size).size + t.size := by rw [hps, ByteArray.size_append]
    have hep := encT_pos t ht
    have htape : tapeS h (t :: L) = storedS h t ++ tapeS (chainS h t) L := rfl
    rw [htape, bts_append, List.append_assoc] at hd
    rw [htape, ByteArray.size_append] at hk
    rw [htape, bts_append] at hc
    unfold sizedB at hs
    rw [Bool.or_eq_false_iff] at hs
    obtain ⟨hs1, hs2⟩ := hs
    by_cases hin : k < (storedS h t).size
    · rw [set_left c (by rw [bts_len]; exact hin)] at hd
      rw [List.getElem?_append_left (by rw [bts_len]; exact hin)] at hc
      generalize bts (tapeS (chainS h t) L) ++ r = r' at hd
      have hst : bts (storedS h t) = [1] ++ (bts (encT t.size) ++ (bts t ++ bts (chainS h t))) := by
        unfold storedS
        rw [hps, bts_append, bts_append, bts_append]
        simp only [List.append_assoc]; rfl
      rw [hst] at hd hc
      have hcs : (chainS h t).size = 32 := chainS_size h t
      by_cases h0 : k = 0
      · subst h0
        have hd' : (bts s).drop a = c :: (bts (encT t.size) ++ (bts t ++ bts (chainS h t)) ++ r') := by rw [hd]; simp
        obtain ⟨q1, q2⟩ := byA_drop hd'
        have hc1 : c ≠ 1 := fun e => hc (by rw [e]; rfl)
        by_cases hz : c = 0
        · have : loadA s h a = some ([], a) := loadA_stop (by rw [q2, hz]; rintro ⟨-, h⟩; exact h rfl)
          rw [this] at hl
          cases hl
          exact .inl ⟨hz, by simp, by simp⟩
        · have : loadA s h a = none := loadA_bad ⟨q1, by rw [q2]; intro e; exact hz (UInt8.toNat_inj.1 e)⟩ (fun hr => hc1 (UInt8.toNat_inj.1 (q2.symm.trans hr.mark)))
          rw [this] at hl; cases hl
      · have hk1 : (encT t.size).size < k := by
          rcases Nat.lt_or_ge (encT t.size).size k with hh | hh
          · exact hh
          · exfalso
            have : (decide (1 ≤ (k : Int)) && decide ((k : Int) ≤ ((encT t.size).size : Int))) = true := by simp; omega
            rw [this] at hs1; cases hs1
        rw [set_right c (show [1].length ≤ k by simp; omega), set_right c (show (bts (encT t.size)).length ≤ _ by rw [bts_len]; simp; omega)] at hd
        rw [List.getElem?_append_right (by simp; omega), List.getElem?_append_right (by rw [bts_len]; simp; omega)] at hc
        obtain ⟨p, hp⟩ : ∃ p, k - [1].length - (bts (encT t.size)).length = p := ⟨_, rfl⟩
        simp only [List.length_singleton] at hp hd hc
        rw [hp] at hd hc
        rw [bts_len] at hp
        by_cases hrec : p < t.size
        · -- A BYTE OF THE RECORD
          rw [set_left c (by rw [bts_len]; exact hrec)] at hd
          rw [List.getElem?_append_left (by rw [bts_len]; exact hrec)] at hc
          obtain ⟨t', ht'⟩ : ∃ t' : ByteArray, bts t' = (bts t).set p c := ⟨strOf ((bts t).set p c), by simp [bts, strOf]⟩
          have hsz' : t'.size = t.size := by
            rw [← bts_len t', ht', List.length_set, bts_len]
          have hne : t' ≠ t := fun e => hc (by rw [← e, ht', List.getElem?_set_self (by rw [bts_len]; exact hrec)])
          rw [← ht'] at hd
          have hp' := putsT_split t' (by omega)
          rw [hsz'] at hp'
          have hd1 : (bts s).drop a = 1 :: (bts (putsT t') ++ (bts (chainS h t) ++ r')) := by rw [hd, hp', bts_append]; simp
          obtain ⟨q1, q2⟩ := byA_drop hd1
          have hd2 := drop_bts (b := a + 1) (x := [1]) (r := bts (putsT t') ++ (bts (chainS h t) ++ r')) hd1 rfl
          obtain ⟨e1, e2, e3⟩ := W01.strV_at (show t'.size ≤ 65536 by omega) hd2
          have hd3 := drop_bts (b := a + 1 + (putsT t').size) hd2 (by rw [bts_len])
          have hx := extract_drop hd3
          rw [hcs] at hx
          rw [← show ((a : Int) + 1) = ((a + 1 : Nat) : Int) by omega] at e1 e2 e3
          by_cases hok : RecOK s h a
          · have hdg := hok.dig
            rw [e1, e2, Int.toNat_natCast, hx] at hdg
            rw [loadA_step q1 hok, e1] at hl
            cases hl2 : loadA s (chainS h t') ((strE s ((a : Int) + 1)).toNat + 32) with
            | none => rw [hl2] at hl; cases hl
            | some x =>
              rw [hl2] at hl
              simp only [Option.map_some, Option.some.injEq, Prod.mk.injEq] at hl
              obtain ⟨rfl, -⟩ := hl
              refine .inr ⟨0, m2 ++ h ++ t, m2 ++ h ++ t', rfl, rfl, fun e => hne ?_, hdg⟩
              have := congrArg bts e
              rw [bts_append, bts_append] at this
              exact (str_ext (List.append_cancel_left this)).symm
          · rw [loadA_bad ⟨q1, by rw [q2]; decide⟩ hok] at hl; cases hl
        · -- A BYTE OF THE HEAD
          rw [set_right c (by rw [bts_len]; omega), bts_len] at hd
          rw [List.getElem?_append_right (by rw [bts_len]; omega), bts_len] at hc
          obtain ⟨q, hq⟩ : ∃ q, p - t.size = q := ⟨_, rfl⟩
          rw [hq] at hd hc
          have hq32 : q < 32 := by omega
          obtain ⟨g, hg⟩ : ∃ g : ByteArray, bts g = (bts (chainS h t)).set q c := ⟨strOf ((bts (chainS h t)).set q c), by simp [bts, strOf]⟩
          have hgs : g.size = 32 := by rw [← bts_len g, hg, List.length_set, bts_len, hcs]
          have hne : g ≠ chainS h t := fun e => hc (by rw [← e, hg, List.getElem?_set_self (by rw [bts_len, hcs]; exact hq32)])
          rw [← hg] at hd
          have hd1 : (bts s).drop a = 1 :: (bts (putsT t) ++ (bts g ++ r')) := by rw [hd, hps, bts_append]; simp
          obtain ⟨q1, q2⟩ := byA_drop hd1
          have hd2 := drop_bts (b := a + 1) (x := [1]) (r := bts (putsT t) ++ (bts g ++ r')) hd1 rfl
          obtain ⟨e1, e2, e3⟩ := W01.strV_at ht hd2
          have hd3 := drop_bts (b := a + 1 + (putsT t).size) hd2 (by rw [bts_len])
          have hx := extract_drop hd3
          rw [hgs] at hx
          rw [← show ((a : Int) + 1) = ((a + 1 : Nat) : Int) by omega] at e1 e2 e3
          have hno : ¬ RecOK s h a := fun hok => by
            have hdg := hok.dig
            rw [e1, e2, Int.toNat_natCast, hx] at hdg
            exact hne hdg
          rw [loadA_bad ⟨q1, by rw [q2]; decide⟩ hno] at hl; cases hl
    · -- BEHIND THE FIRST RECORD
      rw [set_right c (by rw [bts_len]; omega), bts_len] at hd
      rw [List.getElem?_append_right (by rw [bts_len]; omega), bts_len] at hc
      obtain ⟨q1, q2, e1, e2, hok⟩ := rec_ok ht hd
      have hd2 := drop_bts (b := a + 1 + (putsT t).size + 32) hd (by rw [bts_len, hsz]; omega)
      rw [loadA_step q1 hok, e1, e2, Int.toNat_natCast] at hl
      cases hl2 : loadA s (chainS h t) (a + 1 + (putsT t).size + 32) with
      | none => rw [hl2] at hl; cases hl
      | some x =>
        obtain ⟨M', e'⟩ := x
        rw [hl2] at hl
        simp only [Option.map_some, Option.some.injEq, Prod.mk.injEq] at hl
        obtain ⟨rfl, rfl⟩ := hl
        have hz : ((k : Int) - (33 + ((encT t.size).size : Int) + (t.size : Int))) = ((k - (storedS h t).size : Nat) : Int) := by omega
        rw [hz] at hs2
        rcases damaged L (chainS h t) _ (k - (storedS h t).size) r M' e' (fun x hx => hL x (by simp [hx])) hd2 (by omega) hc hs2 hl2 with ⟨hz0, hlt, heq⟩ | ⟨i, x, y, c1, c2, c3, c4⟩
        · exact .inl ⟨hz0, by simp; omega, by simp only [List.length_cons, List.take_succ_cons]; rw [← heq]⟩
        · exact .inr ⟨i + 1, x, y, by simpa [headsL] using c1, by simpa [headsL] using c2, c3, c4⟩
/-- A byte of the journal is changed, and the disk is opened again. -/
theorem damaged_open {n : Nat} {L : List ByteArray} {D : DiskD} (h : Good n L D) (hl : D.left = 0) {k : Nat} {c : UInt8} (hk : k < tapeN L) (hc : (bts (tapeS z32 L))[k]? ≠ some c) (hs : sizedB L k = false) :
    openE n (writeD D k ⟨#[c]⟩) = 342 ∨ (openE n (writeD D k ⟨#[c]⟩) = 0 ∧ Changed c z32 L (openL n (writeD D k ⟨#[c]⟩))) := by
  have hfit := h.full.2.1
  have hOn : OnD n D := ⟨h.inv, h.on, hl⟩
  obtain ⟨-, a2, a3, -, -⟩ := on_write hOn k ⟨#[c]⟩ (by show k + 1 ≤ n; omega)
  generalize writeD D k ⟨#[c]⟩ = E at a2 a3 ⊢
  obtain ⟨r1, r2⟩ := on_read a2
  have hb : bts (strOf E.vis) = (bts (tapeS z32 L) ++ zl (n - tapeN L)).set k c := by
    have : bts (strOf E.vis) = E.vis := by simp [bts, strOf]
    rw [this, a3, h.full.2.2]
    show putB _ k [c] = _
    unfold putB
    rw [List.set_eq_take_append_cons_drop, if_pos (by rw [List.length_append, bts_len]; show k < tapeN L + _; omega)]
    simp
  have hsz : (strOf E.vis).size = n := by
    show (strOf E.vis).data.size = n
    unfold strOf
    rw [List.size_toArray]
    exact a2.inv.visLen
  unfold openE openL
  rw [if_neg (by rw [r1]; decide), r2]
  cases hload : loadS (strOf E.vis) with
  | none => exact .inl rfl
  | some x =>
    obtain ⟨M, e⟩ := x
    right
    simp only
    refine ⟨?_, damaged L z32 0 k _ M e h.full.1 (by rw [List.drop_zero]; exact hb) hk hc hs hload⟩
    have hf := load_facts hload
    rw [hsz] at hf
    split
    · rfl
    · obtain ⟨b1, b2, -, -, -⟩ := on_write a2 e (zeroS (n - e)) (by rw [zeroS_size]; omega)
      unfold trim2 seqD
      rw [if_pos (show (wrO (e : Int) (zeroS (n - e)) E).1 = 0 from b1)]
      show (seqD [syO] (writeD E (e : Int) (zeroS (n - e)))).1 = 0
      unfold seqD
      rw [if_pos (show (syO (writeD E (e : Int) (zeroS (n - e)))).1 = 0 from (on_sync b2).1)]
      rfl
end Go.Proofs.YtnckpnbecmmcpaaGreatDoor
