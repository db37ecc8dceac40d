/- package loss and package nadirref18: Latest; nadirref18: Ints. -/
import Derived.Test.YtmajkagmcdlncaaC8
namespace Go.Proofs.Ytmajkagmcdlncaa
open Go.RowKit
open L18 (Pass Slot noPass noSlot putV ownI passesV ownV mostV allowB limB setB validB properB lastV lateL latI latOK)

def lastN (l : List Pass) (o : List Slot) (k : Int) : Int := if okV l o k = true then (lastV l o k : Nat) else 0
def lateQ (l : List Pass) (o : List Slot) (k : Int) : List Int := if okV l o k = true then lateL l o k else []
theorem slots_take {W : World} {b off n cap k : Nat} {l : List Slot} (h : SlotsAt W (.slice (some ⟨b, off, none⟩) n cap) l) (hk : k ≤ l.length) : SlotsAt W (.slice (some ⟨b, off, none⟩) k cap) (l.take k) := by
  obtain ⟨a, c, e, h1, h2, h3⟩ := h
  cases e
  have hl : (l.take k).length = k := by rw [List.length_take]; omega
  refine ⟨_, _, by rw [hl], by rw [hl]; omega, h2, fun h0 => ?_⟩
  obtain ⟨b', off', e2, h4⟩ := h3 (by omega)
  cases e2
  refine ⟨_, _, rfl, fun j y hj => h4 j y ?_⟩
  rw [List.getElem?_take] at hj
  split at hj
  · exact hj
  · cases hj
theorem lat_step {l : List Pass} {o : List Slot} {k : Int} {i : Nat} (h : latOK l o k (i + 1) = false) : latI l o k (i + 1) = latI l o k i := by rw [latI, if_neg (by rw [h]; decide)]
theorem lat_here {l : List Pass} {o : List Slot} {k : Int} {i : Nat} (h : latOK l o k (i + 1) = true) : latI l o k (i + 1) = i + 1 := by rw [latI, if_pos h]
theorem lat_ok {l : List Pass} {o : List Slot} {k : Int} {i : Nat} {s : Slot} (hs : o.getD i noSlot = s) : latOK l o k i = (decide ((mostV l (ownV (o.take i)) : Int) ≤ k) && !(ownV (o.take i)).contains s.pass) := by unfold latOK; rw [hs]
theorem lat_best {l : List Pass} {o : List Slot} {k : Int} {i : Nat} : latI l o k i = if latOK l o k i = true then i else latI l o k (i - 1) := by
  cases i with
  | zero => simp [latI]
  | succ i => rw [latI]; rfl
set_option maxRecDepth 100000 in
set_option maxHeartbeats 2000000 in
theorem latest23 (v vp : Value) (od : OptD) (l : List Pass) (k : Int) (w : World) (ho : OptV w v od) (hp : PassesAt w vp l) :
    Calls Try.prog 23 #[v, vp, .int .i64 k] w fun e w' => (∃ v', e = .returned (.tuple #[.int .i64 (lastN l od.slots k), v', .int .i64 (sureE l od.slots k)]) ∧ IntsAt w' v' (lateQ l od.slots k)) ∧ Below w.heap.size w w' := by
  have HO := Lib.hid ho
  obtain ⟨vs, rfl, hs⟩ := ho
  obtain ⟨⟨i0, i1, i2, i3, i4, i5, i6, i7⟩, o⟩ := od
  dsimp only at hs ⊢
  have hB1 : Below w.heap.size w (w.alloc (.cells #[.int .i64 i0, .int .i64 i1, .int .i64 i2, .int .i64 i3, .int .i64 i4, .int .i64 i5, .int .i64 i6, .int .i64 i7, vs] 28)) := (Below.refl _ _).alloc (Nat.le_refl _) _
  have ka := Blk.new w #[.int .i64 i0, .int .i64 i1, .int .i64 i2, .int .i64 i3, .int .i64 i4, .int .i64 i5, .int .i64 i6, .int .i64 i7, vs] 28
  have HKA := Lib.hid ka
  have HP := Lib.hid hp
  have HS := Lib.hid hs
  have hx := valid17 _ vp _ l _ (HO.out.below hB1) (hp.later hB1)
  have hL := limit45 k
  dsimp only at hx
  obtain ⟨a, cap, rfl, hle, hcm⟩ := hs.len
  unfold maxLen at hcm
  clear hs hp ka
  have HVP := Lib.hid (fun h => valid_parts (l := l) (o := o) h)
  unfold lastN lateQ sureE okV
  cases hl : limB k with
  | false =>
    rw [hl] at hL
    clear hl hx
    have HL := Lib.hid hL
    clear hL
    rw [Bool.and_false, if_neg (by decide), if_neg (by decide), if_neg (by decide)]
    go_enter Try.func23, Try.ntmps23
    go_wp2_with fail
    refine (HL.out _).mono ?_
    rintro e w2 ⟨rfl, rfl⟩
    go_wp2
    refine bodyPost_ret (v := .tuple #[.int .i64 0, .slice none 0 0, .int .i64 180]) (by simp [results, Try.results23, go_sem]) rfl ⟨⟨_, rfl, none, 0, rfl, by simp, by unfold maxLen; omega, fun h => by simp at h⟩, hB1⟩
  | true =>
    rw [hl] at hL
    have HLK := Lib.hid hl
    clear hl
    have HL := Lib.hid hL
    clear hL
    cases hv : validB l o with
    | false =>
      rw [hv] at hx
      clear hv
      rw [Bool.false_and, if_neg (by decide), if_neg (by decide), if_neg (by decide)]
      go_enter Try.func23, Try.ntmps23
      go_wp2_with fail
      refine (HL.out _).mono ?_
      rintro e w2 ⟨rfl, rfl⟩
      go_wp2_with fail
      refine hx.mono ?_
      rintro e w1 ⟨rfl, hB2⟩
      go_wp2
      refine bodyPost_ret (v := .tuple #[.int .i64 0, .slice none 0 0, .int .i64 180]) (by simp [results, Try.results23, go_sem]) rfl ⟨⟨_, rfl, none, 0, rfl, by simp, by unfold maxLen; omega, fun h => by simp at h⟩, hB1.trans (hB2.mono (by simp))⟩
    | true =>
      rw [hv] at hx
      obtain ⟨hcan, h1, h6, hin⟩ := HVP.out hv
      have HIN := Lib.hid hin
      have HCN := Lib.hid hcan
      clear hv hin hcan HVP
      rw [Bool.true_and, if_pos rfl, if_pos rfl, if_pos rfl]
      have HLV := Lib.hid (show lastV l o k = latI l o k (o.length - 1) from rfl)
      have HLL := Lib.hid (show lateL l o k = ownV (o.take (lastV l o k)) from rfl)
      generalize lastV l o k = lv at HLV HLL ⊢
      generalize lateL l o k = ll at HLL ⊢
      go_enter Try.func23, Try.ntmps23
      go_wp2_with fail
      refine (HL.out _).mono ?_
      rintro e w2 ⟨rfl, rfl⟩
      go_wp2_with fail
      refine hx.mono ?_
      rintro e w1 ⟨rfl, hB2⟩
      have hBw : Below w.heap.size w w1 := hB1.trans (hB2.mono (by simp))
      have HK8 := Lib.hid (fun W (hW : Below w1.heap.size w1 W) => ((HKA.out.below hB2 (by simp)).below hW (HKA.out.below hB2 (by simp)).lt).cell 8)
      have c8 := HK8.out w1 (Below.refl _ _)
      simp at c8
      have hw1 : IntKind.i64.wrap ((o.length : Int) - 1) = ((o.length - 1 : Nat) : Int) := by rw [IntKind.wrap_i64]; omega
      have hw2 : (o.length : Int) - 1 = ((o.length - 1 : Nat) : Int) := by omega
      obtain ⟨n1, hn1⟩ : ∃ n, o.length - 1 = n := ⟨_, rfl⟩
      rw [hn1] at hw1 hw2 HLV
      have HN1 := Lib.hid hn1
      have hnl : n1 < o.length := by omega
      clear hn1 hB1 hx
      go_upto_region 4 with (fail)
      clear hw1 hw2
      go_loopw [9, 10] (fun u9 _ wr => ∃ i : Nat, i ≤ n1 ∧ u9 = .int .i64 i ∧ lv = latI l o k i ∧ Below w1.heap.size w1 wr) (fun u9 _ _ => (intOf u9).toNat)
      case atStart => exact ⟨n1, Nat.le_refl _, rfl, HLV.out, Below.refl _ _⟩
      case round =>
        obtain ⟨i, hi, rfl, hlv, hBr⟩ := hrel
        have HLI := Lib.hid hlv
        clear hlv c8
        have c8 := HK8.out _ hBr
        simp at c8
        have hBr0 := hBw.trans (hBr.mono hBw.size)
        by_cases hi0 : 0 < i
        · obtain ⟨i', hii⟩ : ∃ i', i = i' + 1 := ⟨i - 1, by omega⟩
          have hw1 : IntKind.i64.wrap ((i : Int) - 1) = (i' : Int) := by rw [IntKind.wrap_i64]; omega
          have i1 : (0 : Int) ≤ (i : Int) ∧ (i : Int) < (o.length : Int) ∧ (i : Int) ≤ (cap : Int) := by omega
          have i2 : decide ((0 : Int) < (i : Int)) = true := decide_eq_true (by omega)
          have hio : i < o.length := by omega
          obtain ⟨b, off, rfl, d0, d1, d2⟩ := (SlotsAt.later HS.out hBr0).get (getD_some noSlot hio)
          generalize hsd : o.getD i noSlot = s at d0
          have HOKE := Lib.hid (lat_ok (l := l) (k := k) hsd)
          have HII := Lib.hid hii
          have HSD := Lib.hid hsd
          have hO := passesOf40 _ (o.take i) wr (slots_take (SlotsAt.later HS.out hBr0) (Nat.le_of_lt hio)) (by rw [List.length_take]; omega)
          have hlb : b < wr.heap.size := World.block_lt_of_cell? _ _ d0
          clear hsd hii d1 d2
          go_wp2_with fail
          refine hO.mono ?_
          rintro e w3 ⟨v3, rfl, hI, hB3⟩
          have hB13 := hBr.trans (hB3.mono hBr.size)
          have hB03 := hBr0.trans (hB3.mono hBr0.size)
          have hol := own_len (o.take i)
          rw [List.length_take] at hol
          have hM := most39 vp v3 l (ownV (o.take i)) w3 (PassesAt.later HP.out hB03) hI.ints HCN.out (own_in (take_in HIN.out)) (by omega)
          have HI := Lib.hid hI.ints
          obtain ⟨ow, how⟩ : ∃ x, ownV (o.take i) = x := ⟨_, rfl⟩
          rw [how] at hM HI HOKE
          have HOW := Lib.hid how
          clear how
          clear hO hI hol
          go_wp2_with fail
          refine hM.mono ?_
          rintro e w4 ⟨rfl, hB4⟩
          generalize mostV l ow = mm at HOKE ⊢
          have hB14 := hB13.trans (hB4.mono hB13.size)
          have hB04 := hB03.trans (hB4.mono hB03.size)
          have c8 := HK8.out _ hB14
          simp at c8
          obtain ⟨b9, off9, e9, d0', -, -⟩ := (SlotsAt.later HS.out hB04).get (getD_some noSlot hio)
          cases e9
          rw [HSD.out] at d0'
          have hcn := contains47 _ ow s.pass w4 (HI.out.below hB4)
          by_cases hmk : (mm : Int) ≤ k
          · have e1 : decide ((mm : Int) ≤ k) = true := decide_eq_true hmk
            clear hmk
            cases hc : ow.contains s.pass with
            | false =>
              rw [hc] at hcn HOKE
              have HR := Lib.hid (show latI l o k i = i by rw [HII.out]; exact lat_here (by rw [← HII.out, HOKE.out, e1]; rfl))
              clear hc HOKE
              go_wp2_with fail
              refine hcn.mono ?_
              rintro e w5 ⟨rfl, rfl⟩
              go_wp2
              refine bodyPost_ret (v := .tuple #[.int .i64 i, v3, .int .i64 0]) (by simp [results, Try.results23, go_sem]) rfl ⟨⟨_, by rw [HLI.out, HR.out], ?_⟩, hB04⟩
              rw [HLL.out, HLI.out, HR.out, HOW.out]
              exact HI.out.below hB4
            | true =>
              rw [hc] at hcn HOKE
              have HR := Lib.hid (show latI l o k i = latI l o k i' by rw [HII.out]; exact lat_step (by rw [← HII.out, HOKE.out, e1]; rfl))
              clear hc HOKE
              go_wp2_with fail
              refine hcn.mono ?_
              rintro e w5 ⟨rfl, rfl⟩
              go_wp2
              go_roundw
              case rel => exact ⟨i', by have := HII.out; omega, by go_num, by rw [HLI.out, HR.out], hB14⟩
              case measure => have := HII.out; simp [intOf]; omega
          · have e1 : decide ((mm : Int) ≤ k) = false := decide_eq_false hmk
            have HR := Lib.hid (show latI l o k i = latI l o k i' by rw [HII.out]; exact lat_step (by rw [← HII.out, HOKE.out, e1]; rfl))
            clear hmk HOKE
            go_wp2
            go_roundw
            case rel => exact ⟨i', by have := HII.out; omega, by go_num, by rw [HLI.out, HR.out], hB14⟩
            case measure => have := HII.out; simp [intOf]; omega
        · have HZ := Lib.hid (show latI l o k 0 = 0 from rfl)
          obtain rfl : i = 0 := by omega
          have i2 : decide ((0 : Int) < ((0 : Nat) : Int)) = false := decide_eq_false (by omega)
          go_wp2
          refine bodyPost_ret (v := .tuple #[.int .i64 0, .slice none 0 0, .int .i64 0]) (by simp [results, Try.results23, go_sem]) rfl ⟨⟨_, by rw [HLI.out, HZ.out]; rfl, ?_⟩, hBr0⟩
          rw [HLL.out, HLI.out, HZ.out]
          exact ⟨none, 0, rfl, by simp [ownV, ownI, passesV], by unfold maxLen; omega, fun h => by simp [ownV, ownI, passesV] at h⟩
end Go.Proofs.Ytmajkagmcdlncaa
