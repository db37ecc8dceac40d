/- package nadirref18: Latest, Ints; short of the laws. -/
import Derived.Test.YtmajkagmcdlncaaC9
namespace Go.Proofs.Ytmajkagmcdlncaa
open Go.RowKit
open L18 (Pass Slot noPass noSlot putV ownI passesV ownV mostV allowB limB setB validB properB lastV lateL latI latOK)

set_option maxRecDepth 100000 in
set_option maxHeartbeats 1000000 in
theorem ints25 (v1 v2 : Value) (l : List Int) (w : World) (h1 : IntsAt w v1 l) (h2 : IntsAt w v2 l) :
    Calls Try.prog 25 #[v1, v2] w fun e w' => e = .returned (.bool true) ∧ Below w.heap.size w w' := by
  have H1 := Lib.hid h1
  have H2 := Lib.hid h2
  obtain ⟨a, c, rfl, ha, hc⟩ := h1.len
  obtain ⟨b, d, rfl, hb, hd⟩ := h2.len
  unfold maxLen at hc hd
  clear h1 h2
  go_enter Try.func25, Try.ntmps25
  go_wp2
  go_loopw [5] (fun u5 wr => ∃ k : Nat, k ≤ l.length ∧ u5 = .int .i64 k ∧ Below w.heap.size w wr) (fun u5 _ => (l.length - intOf u5).toNat)
  case atStart => exact ⟨0, by omega, rfl, Below.refl _ _⟩
  case round =>
    obtain ⟨k, hk, rfl, hB⟩ := hrel
    by_cases hkl : k < l.length
    · have hs := Lib.hid (getD_some 0 hkl)
      obtain ⟨p1, o1, e1, c1⟩ := (H1.out.below hB).get hs.out
      obtain ⟨p2, o2, e2, c2⟩ := (H2.out.below hB).get hs.out
      cases e1
      cases e2
      generalize l.getD k 0 = x at c1 c2
      clear hs
      have hk2 : (0 : Int) ≤ (k : Int) ∧ (k : Int) < (l.length : Int) := by omega
      go_wp2_with fail
      go_quiet (fail)
      go_wp2
      go_roundw
      case rel => exact ⟨k + 1, by omega, by go_num, below_drewN hB _⟩
      case measure => simp [intOf]; omega
    · obtain rfl : k = l.length := by omega
      go_wp2
      go_ret
      exact ⟨rfl, hB⟩
theorem slots_cut {W : World} {a : Option Addr} {n cap k : Nat} {l : List Slot} (h : SlotsAt W (.slice a n cap) l) (hk : k ≤ l.length) : SlotsAt W (.slice a k cap) (l.take k) := by
  obtain ⟨a', c, e, h1, h2, h3⟩ := h
  cases e
  have hl : (l.take k).length = k := by rw [List.length_take]; omega
  refine ⟨_, _, by rw [hl], by rw [hl]; omega, h2, fun h0 => ?_⟩
  obtain ⟨b', off', e2, h4⟩ := h3 (by omega)
  refine ⟨b', off', e2, fun j y hj => h4 j y ?_⟩
  rw [List.getElem?_take] at hj
  split at hj
  · exact hj
  · cases hj
def shortO (od : OptD) : OptD := ⟨od.hd, od.slots.take 7⟩
set_option maxRecDepth 100000 in
theorem short14 (v : Value) (od : OptD) (w : World) (ho : OptV w v od) : Calls Try.prog 14 #[v] w fun e w' => (∃ v', e = .returned v' ∧ OptV w' v' (shortO od)) ∧ Below w.heap.size w w' := by
  obtain ⟨vs, rfl, hs⟩ := ho
  obtain ⟨⟨i0, i1, i2, i3, i4, i5, i6, i7⟩, o⟩ := od
  unfold shortO
  dsimp only at hs ⊢
  obtain ⟨m, hm⟩ : ∃ m, min o.length 7 = m := ⟨_, rfl⟩
  have hml : m ≤ o.length := by omega
  have htk : o.take 7 = o.take m := by rw [← hm]; by_cases h : o.length ≤ 7 <;> simp [Nat.min_def, h]; rw [List.take_of_length_le h]
  obtain ⟨a, cap, rfl, hle, hcm⟩ := hs.len
  have HS := Lib.hid (slots_cut hs hml)
  unfold maxLen at hcm
  have hmn : (if (7 : Int) < (o.length : Int) then (7 : Int) else (o.length : Int)) = (m : Int) := by rw [← hm, Nat.min_def]; split <;> split <;> omega
  have hmn2 : min (o.length : Int) 7 = (m : Int) := by rw [← hmn, Int.min_def]; split <;> split <;> omega
  have j1 : (0 : Int) ≤ (m : Int) ∧ (m : Int) ≤ (o.length : Int) ∧ (m : Int) ≤ (cap : Int) := by omega
  rw [htk]
  clear hs htk hm
  go_enter Try.func14, Try.ntmps14
  go_wp2
  refine bodyPost_ret (v := .agg #[.int .i64 i0, .int .i64 i1, .int .i64 i2, .int .i64 i3, .int .i64 i4, .int .i64 i5, .int .i64 i6, .int .i64 i7, .slice a m cap]) (by simp [results, Try.results14, go_sem]) rfl ?_
  have hb : Below w.heap.size w ((w.alloc (.cells #[.int .i64 i0, .int .i64 i1, .int .i64 i2, .int .i64 i3, .int .i64 i4, .int .i64 i5, .int .i64 i6, .int .i64 i7, .slice a m cap] 28)).alloc (.cells #[.int .i64 i0, .int .i64 i1, .int .i64 i2, .int .i64 i3, .int .i64 i4, .int .i64 i5, .int .i64 i6, .int .i64 i7, .slice a m cap] 28)) := ((Below.refl _ _).alloc (Nat.le_refl _) _).alloc (by simp) _
  exact ⟨⟨_, rfl, _, rfl, SlotsAt.later HS.out hb⟩, hb⟩
set_option maxRecDepth 100000 in
set_option maxHeartbeats 2000000 in
theorem latest24 (v vp : Value) (od : OptD) (l : List Pass) (k : Int) (w : World) (ho : OptV w v od) (hp : PassesAt w vp l) :
    Calls Try.prog 24 #[v, vp, .int .i64 k] w fun e w' => (∃ v', e = .returned (.tuple #[.int .i64 (lastN l od.slots k), v', .int .i64 (sureE l od.slots k)]) ∧ IntsAt w' v' (lateQ l od.slots k)) ∧ Below w.heap.size w w' := by
  have HO := Lib.hid ho
  obtain ⟨vs, rfl, hs⟩ := ho
  obtain ⟨⟨i0, i1, i2, i3, i4, i5, i6, i7⟩, o⟩ := od
  dsimp only at hs ⊢
  have hB1 : Below w.heap.size w (w.alloc (.cells #[.int .i64 i0, .int .i64 i1, .int .i64 i2, .int .i64 i3, .int .i64 i4, .int .i64 i5, .int .i64 i6, .int .i64 i7, vs] 28)) := (Below.refl _ _).alloc (Nat.le_refl _) _
  have ka := Blk.new w #[.int .i64 i0, .int .i64 i1, .int .i64 i2, .int .i64 i3, .int .i64 i4, .int .i64 i5, .int .i64 i6, .int .i64 i7, vs] 28
  have HKA := Lib.hid ka
  have HP := Lib.hid hp
  have HS := Lib.hid hs
  have hx := valid18 _ vp _ l _ (HO.out.below hB1) (hp.later hB1)
  have hL := limit46 k
  dsimp only at hx
  obtain ⟨a, cap, rfl, hle, hcm⟩ := hs.len
  unfold maxLen at hcm
  clear hs hp ka
  have HVP := Lib.hid (fun h => valid_parts (l := l) (o := o) h)
  unfold lastN lateQ sureE okV
  cases hv : validB l o with
  | false =>
    rw [hv] at hx
    clear hv hL
    rw [Bool.false_and, if_neg (by decide), if_neg (by decide), if_neg (by decide)]
    go_enter Try.func24, Try.ntmps24
    go_wp2_with fail
    refine hx.mono ?_
    rintro e w1 ⟨rfl, hB2⟩
    go_wp2
    refine bodyPost_ret (v := .tuple #[.int .i64 0, .slice none 0 0, .int .i64 180]) (by simp [results, Try.results24, go_sem]) rfl ⟨⟨_, rfl, none, 0, rfl, by simp, by unfold maxLen; omega, fun h => by simp at h⟩, hB1.trans (hB2.mono (by simp))⟩
  | true =>
    rw [hv] at hx
    obtain ⟨hcan, h1, h6, hin⟩ := HVP.out hv
    have HIN := Lib.hid hin
    have HCN := Lib.hid hcan
    clear hv hin hcan HVP
    rw [Bool.true_and]
    cases hl : limB k with
    | false =>
      rw [hl] at hL
      clear hl
      have HL := Lib.hid hL
      clear hL
      rw [if_neg (by decide), if_neg (by decide), if_neg (by decide)]
      go_enter Try.func24, Try.ntmps24
      go_wp2_with fail
      refine hx.mono ?_
      rintro e w1 ⟨rfl, hB2⟩
      go_wp2_with fail
      refine (HL.out _).mono ?_
      rintro e w2 ⟨rfl, rfl⟩
      go_wp2
      refine bodyPost_ret (v := .tuple #[.int .i64 0, .slice none 0 0, .int .i64 180]) (by simp [results, Try.results24, go_sem]) rfl ⟨⟨_, rfl, none, 0, rfl, by simp, by unfold maxLen; omega, fun h => by simp at h⟩, hB1.trans (hB2.mono (by simp))⟩
    | true =>
      rw [hl] at hL
      clear hl
      have HL := Lib.hid hL
      clear hL
      rw [if_pos rfl, if_pos rfl, if_pos rfl]
      have HLV := Lib.hid (show lastV l o k = latI l o k (o.length - 1) from rfl)
      have HLL := Lib.hid (show lateL l o k = ownV (o.take (lastV l o k)) from rfl)
      generalize lastV l o k = lv at HLV HLL ⊢
      generalize lateL l o k = ll at HLL ⊢
      go_enter Try.func24, Try.ntmps24
      go_wp2_with fail
      refine hx.mono ?_
      rintro e w1 ⟨rfl, hB2⟩
      go_wp2_with fail
      refine (HL.out _).mono ?_
      rintro e w2 ⟨rfl, rfl⟩
      have hBw : Below w.heap.size w w1 := hB1.trans (hB2.mono (by simp))
      have hkb := HKA.out.below hB2 (by simp)
      have HK := Lib.hid (fun W (hW : Below w1.heap.size w1 W) => show W.cell? ⟨w.heap.size, 0, none⟩ = some (.int .i64 i0) ∧ W.cell? ⟨w.heap.size, 1, none⟩ = some (.int .i64 i1) ∧ W.cell? ⟨w.heap.size, 2, none⟩ = some (.int .i64 i2) ∧ W.cell? ⟨w.heap.size, 3, none⟩ = some (.int .i64 i3) ∧ W.cell? ⟨w.heap.size, 4, none⟩ = some (.int .i64 i4) ∧ W.cell? ⟨w.heap.size, 5, none⟩ = some (.int .i64 i5) ∧ W.cell? ⟨w.heap.size, 6, none⟩ = some (.int .i64 i6) ∧ W.cell? ⟨w.heap.size, 7, none⟩ = some (.int .i64 i7) ∧ W.cell? ⟨w.heap.size, 8, none⟩ = some (.slice a o.length cap) from
        ⟨(hkb.below hW hkb.lt).cell 0, (hkb.below hW hkb.lt).cell 1, (hkb.below hW hkb.lt).cell 2, (hkb.below hW hkb.lt).cell 3, (hkb.below hW hkb.lt).cell 4, (hkb.below hW hkb.lt).cell 5, (hkb.below hW hkb.lt).cell 6, (hkb.below hW hkb.lt).cell 7, (hkb.below hW hkb.lt).cell 8⟩)
      have hcells := HK.out w1 (Below.refl _ _)
      clear hB1 hx hkb
      go_wp2
      go_loopw [9, 10, 11, 12] (fun u9 u10 u11 _ wr => ∃ i : Nat, i ≤ o.length ∧ u11 = .int .i64 i ∧ u9 = .int .i64 (latI l o k (i - 1) : Nat) ∧ IntsF wr u10 (ownV (o.take (latI l o k (i - 1)))) ∧ Below w1.heap.size w1 wr) (fun _ _ u11 _ _ => (o.length - intOf u11).toNat)
      case atStart => exact ⟨0, by omega, rfl, rfl, IntsF.nil _, Below.refl _ _⟩
      case round =>
        obtain ⟨i, hi, rfl, rfl, hIF, hBr⟩ := hrel
        clear hcells
        have hcells := HK.out _ hBr
        have hBr0 := hBw.trans (hBr.mono hBw.size)
        have HIF := Lib.hid hIF
        clear hIF
        by_cases hio : i < o.length
        · have j1 : (0 : Int) ≤ (i : Int) ∧ (i : Int) < (o.length : Int) := by omega
          obtain ⟨b, off, rfl, d0, d1, d2⟩ := (SlotsAt.later HS.out hBr0).get (getD_some noSlot hio)
          obtain ⟨s, hsd⟩ : ∃ s, o.getD i noSlot = s := ⟨_, rfl⟩
          have HSD := Lib.hid hsd
          have HOKE := Lib.hid (lat_ok (l := l) (k := k) hsd)
          have HLB := Lib.hid (lat_best (l := l) (o := o) (k := k) (i := i))
          have hO := own42 _ _ i wr (HO.out.below hBr0) (Nat.le_of_lt hio) (by dsimp only; omega)
          dsimp only at hO
          generalize latI l o k (i - 1) = lb at HIF HLB ⊢
          clear hsd d0 d1 d2
          go_wp2_with fail
          refine hO.mono ?_
          rintro e w3 ⟨v3, rfl, hI, hB3⟩
          have hB13 := hBr.trans (hB3.mono hBr.size)
          have hB03 := hBr0.trans (hB3.mono hBr0.size)
          have hol := own_len (o.take i)
          rw [List.length_take] at hol
          have hM := most41 vp v3 l (ownV (o.take i)) w3 (PassesAt.later HP.out hB03) hI.ints HCN.out (own_in (take_in HIN.out)) (by omega)
          have HI := Lib.hid hI
          obtain ⟨ow, how⟩ : ∃ x, ownV (o.take i) = x := ⟨_, rfl⟩
          rw [how] at hM HI HOKE
          have HOW := Lib.hid how
          clear how hO hI hol
          go_wp2_with fail
          refine hM.mono ?_
          rintro e w4 ⟨rfl, hB4⟩
          generalize mostV l ow = mm at HOKE ⊢
          have hB14 := hB13.trans (hB4.mono hB13.size)
          have hB04 := hB03.trans (hB4.mono hB03.size)
          clear hcells
          have hcells := HK.out _ hB14
          obtain ⟨b9, off9, e9, d0', -, -⟩ := (SlotsAt.later HS.out hB04).get (getD_some noSlot hio)
          cases e9
          rw [HSD.out] at d0'
          have hcn := has35 _ ow s.pass w4 (HI.out.ints.below hB4)
          by_cases hmk : (mm : Int) ≤ k
          · have e1 : decide ((mm : Int) ≤ k) = true := decide_eq_true hmk
            clear hmk
            cases hc : ow.contains s.pass with
            | false =>
              rw [hc] at hcn HOKE
              have HR := Lib.hid (show latI l o k (i + 1 - 1) = i by rw [Nat.add_sub_cancel, HLB.out, HOKE.out, e1]; rfl)
              clear hc HOKE
              go_wp2_with fail
              refine hcn.mono ?_
              rintro e w5 ⟨rfl, rfl⟩
              go_wp2
              go_roundw
              case rel => exact ⟨i + 1, by omega, by go_num, by rw [HR.out], by rw [HR.out, HOW.out]; exact HI.out.below hB4, hB14⟩
              case measure => simp [intOf]; omega
            | true =>
              rw [hc] at hcn HOKE
              have HR := Lib.hid (show latI l o k (i + 1 - 1) = lb by rw [Nat.add_sub_cancel, HLB.out, HOKE.out, e1]; rfl)
              clear hc HOKE
              go_wp2_with fail
              refine hcn.mono ?_
              rintro e w5 ⟨rfl, rfl⟩
              go_wp2
              go_roundw
              case rel => exact ⟨i + 1, by omega, by go_num, by rw [HR.out], by rw [HR.out]; exact (HIF.out.below hB3).below hB4, hB14⟩
              case measure => simp [intOf]; omega
          · have e1 : decide ((mm : Int) ≤ k) = false := decide_eq_false hmk
            have HR := Lib.hid (show latI l o k (i + 1 - 1) = lb by rw [Nat.add_sub_cancel, HLB.out, HOKE.out, e1]; rfl)
            clear hmk HOKE
            go_wp2
            go_roundw
            case rel => exact ⟨i + 1, by omega, by go_num, by rw [HR.out], by rw [HR.out]; exact (HIF.out.below hB3).below hB4, hB14⟩
            case measure => simp [intOf]; omega
        · obtain rfl : i = o.length := by omega
          rw [← HLV.out]
          rw [← HLV.out, ← HLL.out] at HIF
          go_wp2
          refine bodyPost_ret (v := .tuple #[.int .i64 (lv : Int), u10, .int .i64 0]) (by simp [results, Try.results24, go_sem]) rfl ⟨⟨_, rfl, HIF.out.ints⟩, hBr0⟩
end Go.Proofs.Ytmajkagmcdlncaa
