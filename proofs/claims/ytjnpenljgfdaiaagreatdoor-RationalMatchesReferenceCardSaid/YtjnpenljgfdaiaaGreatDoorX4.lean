/- package integer: Gcd. -/
import Derived.Test.YtjnpenljgfdaiaaGreatDoorX3
namespace Go.Proofs.YtjnpenljgfdaiaaGreatDoor
open Go.RowKit Go.Shelf Lib

theorem NumAt.unique {w : World} {v : Value} {n m : Nat} (h1 : NumAt w v n) (h2 : NumAt w v m) : n = m := by
  refine N3.toG_eq ?_
  obtain ⟨a, c, e1, -, -, k1⟩ := h1
  obtain ⟨a', c', e2, -, -, k2⟩ := h2
  rw [e1] at e2
  rw [castL_len] at e2 k1
  rw [castL_len] at e2 k2
  simp only [Value.slice.injEq] at e2
  obtain ⟨rfl, hl, rfl⟩ := e2
  apply List.ext_getElem hl
  intro i hi hj
  obtain ⟨b, off, rfl, q1⟩ := k1 (by omega)
  obtain ⟨b', off', e3, q2⟩ := k2 (by omega)
  cases e3
  have g1 := q1 i _ (castL_get hi)
  have g2 := q2 i _ (castL_get hj)
  rw [g1] at g2
  have := Option.some.inj g2
  simp only [Value.int.injEq, true_and] at this
  rw [List.getD_eq_getElem?_getD, List.getElem?_eq_getElem hi, List.getD_eq_getElem?_getD, List.getElem?_eq_getElem hj] at this
  simp only [Option.getD_some] at this
  omega
/-- What a number in memory is worth. -/
noncomputable def numOf (w : World) (v : Value) : Nat := by classical exact if h : ∃ n, NumAt w v n then Classical.choose h else 0
theorem numOf_eq {w : World} {v : Value} {n : Nat} (h : NumAt w v n) : numOf w v = n := by
  unfold numOf
  rw [dif_pos ⟨n, h⟩]
  exact NumAt.unique (Classical.choose_spec (p := fun n => NumAt w v n) ⟨n, h⟩) h
set_option maxRecDepth 100000 in
set_option maxHeartbeats 2000000 in
theorem gcd_f (a b : ByteArray) (w : World) (ha : a.size ≤ 9223372036854775807) (hb : b.size ≤ 9223372036854775807) (he : EnvW w) :
    Calls Tryz.prog 40 #[.string a, .string b] w fun e w' => e = .returned (.tuple #[.string (N3.outS (N3.gcdO a b)), .int .i64 (N3.outE (N3.gcdO a b))]) ∧ Below w.heap.size w w' := by
  unfold N3.gcdO
  cases hk : N3.ok2 a b with
  | false =>
    have h := Lib.hid (both_bad a b w ha hb hk)
    clear he hk
    go_enter Tryz.func40, Tryz.ntmps40
    go_wp2_with fail
    refine h.out.mono ?_
    rintro e w' ⟨rfl, hB⟩
    go_wp2
    go_ret2
    exact ⟨rfl, (hB.alloc hB.size _).alloc (by have := hB.size; simp; omega) _⟩
  | true =>
    have h := Lib.hid (both_ok a b w ha hb hk)
    obtain ⟨o1, o2⟩ := ok2_split hk
    rw [if_pos rfl]
    have HE := Lib.hid he
    clear hk he
    go_enter Tryz.func40, Tryz.ntmps40
    go_wp2_with fail
    refine h.out.mono ?_
    rintro e W1 ⟨b1, a1, n1, c1, b2, a2, n2, c2, rfl, hn1, hn2, hs1, hs2, -, -, hB1⟩
    have z1 := sgn_lt hs1 o1
    have z2 := sgn_lt hs2 o2
    have hBa : Below W1.heap.size W1 ((W1.alloc (.cells #[.bool b1, .slice a1 (N3.toG n1).length c1] 90)).alloc (.cells #[.bool b2, .slice a2 (N3.toG n2).length c2] 90)) := ((Below.refl _ _).alloc (Nat.le_refl _) _).alloc (by simp) _
    obtain ⟨k1, k2⟩ := two_blocks (W1 := W1) (b1 := b1) (b2 := b2) (v1 := .slice a1 (N3.toG n1).length c1) (v2 := .slice a2 (N3.toG n2).length c2)
    have HG := Lib.hid (show N3.sgn false (Nat.gcd n1 n2) = N3.gcdI (N3.iV a) (N3.iV b) by
      unfold N3.gcdI
      rw [← hs1, ← hs2, N3.sgn_abs, N3.sgn_abs]; rfl)
    go_wp2_with fail
    generalize ((W1.alloc (.cells #[.bool b1, .slice a1 (N3.toG n1).length c1] 90)).alloc (.cells #[.bool b2, .slice a2 (N3.toG n2).length c2] 90)) = V at hBa k1 k2 ⊢
    have hBV := hB1.trans (hBa.mono hB1.size)
    have x2 := k1.cell 1
    have x4 := k2.cell 1
    simp at x2 x4
    have HN1 := Lib.hid (SliceOf.below hn1 hBa)
    have HN2 := Lib.hid (SliceOf.below hn2 hBa)
    clear hn1 hn2 hs1 hs2
    go_quiet (fail)
    have hBd : Below V.heap.size V (V.drewN nq) := ⟨rfl, rfl, rfl, Nat.le_refl _, fun _ _ => rfl⟩
    generalize V.drewN nq = V2 at hBd ⊢
    go_wp2_with fail
    go_loopw [9, 10, 11, 12] (fun u9 u10 _ _ wr => ∃ (k l : Nat) (ak al : Option Addr) (ck cl : Nat), u9 = .slice ak (N3.toG k).length ck ∧ u10 = .slice al (N3.toG l).length cl ∧ NumAt wr (.slice ak (N3.toG k).length ck) k ∧ NumAt wr (.slice al (N3.toG l).length cl) l ∧ Nat.gcd k l = Nat.gcd n1 n2 ∧ k < N3.lim ∧ l < N3.lim ∧ Below w.heap.size w wr) (fun _ u10 _ _ wr => numOf wr u10)
    case atStart => exact ⟨n1, n2, a1, a2, c1, c2, rfl, rfl, SliceOf.below HN1.out hBd, SliceOf.below HN2.out hBd, rfl, z1, z2, hBV.trans (hBd.mono hBV.size)⟩
    case round =>
      obtain ⟨k, l, ak, al, ck, cl, rfl, rfl, hnk, hnl, hg, hkl, hll, hB⟩ := hrel
      rename World => wr
      by_cases h0 : l = 0
      · have hl0 : (N3.toG l).length = 0 := by rw [h0, N3.toG_zero]; rfl
        rw [h0, Nat.gcd_zero_right] at hg
        have hx := text_any false (.slice ak (N3.toG k).length ck) k wr hnk (by have := len_lim hkl; omega) (HE.out.below hB)
        rw [hg, HG.out] at hx
        rw [hg]
        rw [hl0]
        have HX := Lib.hid hx
        clear hx hnk hnl hg hl0 h0
        go_wp2_with fail
        refine HX.out.mono ?_
        rintro e W5 ⟨rfl, hB5⟩
        go_wp2_with fail
        go_ret2
        exact ⟨rfl, hB.trans (hB5.mono hB.size)⟩
      · have hlp : 0 < (N3.toG l).length := by
          refine Classical.byContradiction fun hc => h0 (N3.toG_nil.1 (List.eq_nil_of_length_eq_zero (by omega)))
        have hlq : (0 : Int) < ((N3.toG l).length : Int) := by omega
        have ho := Lib.hid (over_any (.slice ak (N3.toG k).length ck) (.slice al (N3.toG l).length cl) k l wr hnk hnl (by omega) (by have := len_lim hkl; omega) (by have := len_lim hll; omega))
        have HNL := Lib.hid hnl
        have H0 := Lib.hid h0
        have hg2 : Nat.gcd l (k % l) = Nat.gcd n1 n2 := by rw [← hg, Nat.gcd_comm k l, Nat.gcd_rec l k, Nat.gcd_comm]
        have HG2 := Lib.hid hg2
        have hms := Lib.hid (numOf_eq hnl)
        clear hnk hnl hg hg2 h0
        go_wp2_with fail
        refine ho.out.mono ?_
        rintro e W5 ⟨vq, vr, rfl, hq5, hr5, hB5⟩
        obtain ⟨aq, cq, rfl, q1, q2⟩ := (show IntsAt _ vq _ from hq5).len
        obtain ⟨ar, cr, rfl, q3, q4⟩ := (show IntsAt _ vr _ from hr5).len
        simp only [castL_len] at hq5 hr5 q1 q2 q3 q4 ⊢
        have HR5 := Lib.hid hr5
        have hms2 := Lib.hid (numOf_eq hr5)
        clear hq5 hr5
        go_wp2_with fail
        go_roundw
        case rel => exact ⟨l, k % l, _, _, _, _, rfl, rfl, SliceOf.below HNL.out hB5, HR5.out, HG2.out, hll, by have := Nat.mod_lt k (show 0 < l from Nat.pos_of_ne_zero H0.out); omega, hB.trans (hB5.mono hB.size)⟩
        case measure =>
          show numOf W5 _ < numOf wr _
          rw [hms.out]
          have e2 := hms2.out
          have := Nat.mod_lt k (show 0 < l from Nat.pos_of_ne_zero H0.out)
          rw [e2]; exact this
end Go.Proofs.YtjnpenljgfdaiaaGreatDoor
