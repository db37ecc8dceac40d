/- package loss and package nadirref18: Allowed, Needed, Sure, Fails. -/
import Derived.Test.YtmajkagmcdlncaaC7
namespace Go.Proofs.Ytmajkagmcdlncaa
open Go.RowKit
open L18 (Pass Slot noPass noSlot putV ownI passesV ownV mostV allowB limB setB validB properB lastV lateL latI latOK)

theorem valid_parts {l : List Pass} {o : List Slot} (h : validB l o = true) : CanOK l ∧ 1 ≤ o.length ∧ o.length ≤ 6 ∧ InI l.length (passesV o) := by
  unfold validB L18.slotsB at h
  simp only [Bool.and_eq_true, decide_eq_true_eq] at h
  refine ⟨can_proper h.2.2.1, h.1, h.2.1, fun x hx => ?_⟩
  obtain ⟨s, hs, rfl⟩ := L18.mem_passes.1 hx
  obtain ⟨j, hj, rfl⟩ := L18.mem_getD noSlot hs
  have := h.2.2.2 j hj
  unfold L18.slotOK at this
  exact this.1
theorem own_in {l : List Pass} {o : List Slot} (h : InI l.length (passesV o)) : InI l.length (ownV o) := fun x hx => by
  unfold ownV at hx
  rw [L18.ownI_mem] at hx
  exact h x hx
theorem take_in {n k : Nat} {o : List Slot} (h : InI n (passesV o)) : InI n (passesV (o.take k)) := fun x hx => by
  obtain ⟨s, hs, rfl⟩ := L18.mem_passes.1 hx
  exact h _ (L18.mem_passes.2 ⟨s, List.mem_of_mem_take hs, rfl⟩)
theorem set_parts {l : List Pass} {x : List Int} (h : setB l x = true) : CanOK l ∧ InI l.length x := by
  unfold setB at h
  rw [Bool.and_eq_true] at h
  exact ⟨can_proper h.2, (L18.asc_of h.1).2⟩
theorem allow_yes {l : List Pass} {x : List Int} {k : Int} (h1 : limB k = true) (h2 : setB l x = true) : allowB l x k = decide ((mostV l x : Int) ≤ k) := by unfold allowB; rw [h1, h2]; rfl
theorem allow_no1 {l : List Pass} {x : List Int} {k : Int} (h1 : limB k = false) : allowB l x k = false := by unfold allowB; rw [h1]; rfl
theorem allow_no2 {l : List Pass} {x : List Int} {k : Int} (h1 : limB k = true) (h2 : setB l x = false) : allowB l x k = false := by unfold allowB; rw [h1, h2]; rfl
set_option maxRecDepth 100000 in
theorem allowed28 (vp v : Value) (l : List Pass) (x : List Int) (k : Int) (w : World) (hp : PassesAt w vp l) (hv : IntsAt w v x) (hs : x.length ≤ 1000) :
    Calls Try.prog 28 #[vp, v, .int .i64 k] w fun e w' => e = .returned (.bool (allowB l x k)) ∧ Below w.heap.size w w' := by
  have hL := limit45 k w
  cases h1 : limB k with
  | false =>
    rw [allow_no1 h1]
    rw [h1] at hL
    clear h1
    go_enter Try.func28, Try.ntmps28
    go_wp2_with fail
    refine hL.mono ?_
    rintro e w1 ⟨rfl, rfl⟩
    go_wp2
    go_ret
    exact ⟨rfl, Below.refl _ _⟩
  | true =>
    rw [h1] at hL
    have hS := isSet48 vp v l x w hp hv
    cases h2 : setB l x with
    | false =>
      rw [allow_no2 h1 h2]
      rw [h2] at hS
      clear h1 h2
      go_enter Try.func28, Try.ntmps28
      go_wp2_with fail
      refine hL.mono ?_
      rintro e w1 ⟨rfl, rfl⟩
      go_wp2_with fail
      refine hS.mono ?_
      rintro e w2 ⟨rfl, hB2⟩
      go_wp2
      go_ret
      exact ⟨rfl, hB2⟩
    | true =>
      rw [allow_yes h1 h2]
      rw [h2] at hS
      obtain ⟨hc, hi⟩ := set_parts h2
      have HM := Lib.hid (fun W (hW : Below w.heap.size w W) => most39 vp v l x W (hp.later hW) (hv.below hW) hc hi hs)
      generalize mostV l x = m at HM ⊢
      clear h1 h2 hc hi hp hv
      go_enter Try.func28, Try.ntmps28
      go_wp2_with fail
      refine hL.mono ?_
      rintro e w1 ⟨rfl, rfl⟩
      go_wp2_with fail
      refine hS.mono ?_
      rintro e w2 ⟨rfl, hB2⟩
      go_wp2_with fail
      refine (HM.out _ hB2).mono ?_
      rintro e w3 ⟨rfl, hB3⟩
      go_wp2
      go_ret
      exact ⟨rfl, hB2.trans (hB3.mono hB2.size)⟩
set_option maxRecDepth 100000 in
theorem allowed29 (vp v : Value) (l : List Pass) (x : List Int) (k : Int) (w : World) (hp : PassesAt w vp l) (hv : IntsAt w v x) (hs : x.length ≤ 1000) :
    Calls Try.prog 29 #[vp, v, .int .i64 k] w fun e w' => e = .returned (.bool (allowB l x k)) ∧ Below w.heap.size w w' := by
  have hL := limit46 k w
  cases h1 : limB k with
  | false =>
    rw [allow_no1 h1]
    rw [h1] at hL
    clear h1
    go_enter Try.func29, Try.ntmps29
    go_wp2_with fail
    refine hL.mono ?_
    rintro e w1 ⟨rfl, rfl⟩
    go_wp2
    go_ret
    exact ⟨rfl, Below.refl _ _⟩
  | true =>
    rw [h1] at hL
    have hS := set51 vp v l x w hp hv
    cases h2 : setB l x with
    | false =>
      rw [allow_no2 h1 h2]
      rw [h2] at hS
      clear h1 h2
      go_enter Try.func29, Try.ntmps29
      go_wp2_with fail
      refine hL.mono ?_
      rintro e w1 ⟨rfl, rfl⟩
      go_wp2_with fail
      refine hS.mono ?_
      rintro e w2 ⟨rfl, hB2⟩
      go_wp2
      go_ret
      exact ⟨rfl, hB2⟩
    | true =>
      rw [allow_yes h1 h2]
      rw [h2] at hS
      obtain ⟨hc, hi⟩ := set_parts h2
      have HM := Lib.hid (fun W (hW : Below w.heap.size w W) => most41 vp v l x W (hp.later hW) (hv.below hW) hc hi hs)
      generalize mostV l x = m at HM ⊢
      clear h1 h2 hc hi hp hv
      go_enter Try.func29, Try.ntmps29
      go_wp2_with fail
      refine hL.mono ?_
      rintro e w1 ⟨rfl, rfl⟩
      go_wp2_with fail
      refine hS.mono ?_
      rintro e w2 ⟨rfl, hB2⟩
      go_wp2_with fail
      refine (HM.out _ hB2).mono ?_
      rintro e w3 ⟨rfl, hB3⟩
      go_wp2
      go_ret
      exact ⟨rfl, hB2.trans (hB3.mono hB2.size)⟩
/-! ### Needed, Sure, Fails -/
def needN (l : List Pass) (o : List Slot) : Int := if validB l o = true then (mostV l (ownV o) : Nat) else 0
def needE (l : List Pass) (o : List Slot) : Int := if validB l o = true then 0 else 180
def okV (l : List Pass) (o : List Slot) (k : Int) : Bool := validB l o && limB k
def sureB (l : List Pass) (o : List Slot) (k : Int) : Bool := okV l o k && decide (k < (mostV l (ownV o) : Nat))
def sureE (l : List Pass) (o : List Slot) (k : Int) : Int := if okV l o k = true then 0 else 180
def failB (l : List Pass) (o : List Slot) (k : Int) : Bool := okV l o k && !decide (k < (mostV l (ownV o) : Nat))
def failL (l : List Pass) (o : List Slot) (k : Int) : List Int := if failB l o k = true then ownV o else []
set_option maxRecDepth 100000 in
set_option maxHeartbeats 1000000 in
theorem needed15 (v vp : Value) (od : OptD) (l : List Pass) (w : World) (ho : OptV w v od) (hp : PassesAt w vp l) :
    Calls Try.prog 15 #[v, vp] w fun e w' => e = .returned (.tuple #[.int .i64 (needN l od.slots), .int .i64 (needE l od.slots)]) ∧ Below w.heap.size w w' := by
  have HO := Lib.hid ho
  obtain ⟨vs, rfl, hs⟩ := ho
  obtain ⟨⟨i0, i1, i2, i3, i4, i5, i6, i7⟩, o⟩ := od
  dsimp only at hs ⊢
  have hB1 : Below w.heap.size w (w.alloc (.cells #[.int .i64 i0, .int .i64 i1, .int .i64 i2, .int .i64 i3, .int .i64 i4, .int .i64 i5, .int .i64 i6, .int .i64 i7, vs] 28)) := (Below.refl _ _).alloc (Nat.le_refl _) _
  have ka := Blk.new w #[.int .i64 i0, .int .i64 i1, .int .i64 i2, .int .i64 i3, .int .i64 i4, .int .i64 i5, .int .i64 i6, .int .i64 i7, vs] 28
  have HKA := Lib.hid ka
  have HP := Lib.hid hp
  have HS := Lib.hid hs
  have hx := valid17 _ vp _ l _ (HO.out.below hB1) (hp.later hB1)
  dsimp only at hx
  obtain ⟨a, cap, rfl, hle, hcm⟩ := hs.len
  unfold maxLen at hcm
  clear hs hp ka
  unfold needN needE
  cases hv : validB l o with
  | false =>
    rw [hv] at hx
    clear hv
    go_enter Try.func15, Try.ntmps15
    go_wp2_with fail
    refine hx.mono ?_
    rintro e w1 ⟨rfl, hB2⟩
    go_wp2
    go_ret2
    exact ⟨rfl, hB1.trans (hB2.mono (by simp))⟩
  | true =>
    rw [hv] at hx
    obtain ⟨hcan, h1, h6, hin⟩ := valid_parts hv
    have HIN := Lib.hid (own_in hin)
    have HCN := Lib.hid hcan
    have HOL := Lib.hid (own_len o)
    clear hv hin hcan
    go_enter Try.func15, Try.ntmps15
    go_wp2_with fail
    refine hx.mono ?_
    rintro e w1 ⟨rfl, hB2⟩
    have hBw : Below w.heap.size w w1 := hB1.trans (hB2.mono (by simp))
    have kk := HKA.out.below hB2 (by simp)
    have c8 := kk.cell 8
    simp at c8
    clear kk
    have hO := passesOf40 _ o w1 (SlotsAt.later HS.out hBw) (by omega)
    go_wp2_with fail
    refine hO.mono ?_
    rintro e w2 ⟨v2, rfl, hI, hB3⟩
    have hBw2 := hBw.trans (hB3.mono hBw.size)
    have hM := most39 vp v2 l (ownV o) w2 (PassesAt.later HP.out hBw2) hI.ints HCN.out HIN.out (by have := HOL.out; omega)
    clear hO hI
    go_wp2_with fail
    refine hM.mono ?_
    rintro e w3 ⟨rfl, hB4⟩
    go_wp2
    go_ret2
    exact ⟨rfl, hBw2.trans (hB4.mono hBw2.size)⟩
set_option maxRecDepth 100000 in
set_option maxHeartbeats 1000000 in
theorem needed16 (v vp : Value) (od : OptD) (l : List Pass) (w : World) (ho : OptV w v od) (hp : PassesAt w vp l) :
    Calls Try.prog 16 #[v, vp] w fun e w' => e = .returned (.tuple #[.int .i64 (needN l od.slots), .int .i64 (needE l od.slots)]) ∧ Below w.heap.size w w' := by
  have HO := Lib.hid ho
  obtain ⟨vs, rfl, hs⟩ := ho
  obtain ⟨⟨i0, i1, i2, i3, i4, i5, i6, i7⟩, o⟩ := od
  dsimp only at hs ⊢
  have hB1 : Below w.heap.size w (w.alloc (.cells #[.int .i64 i0, .int .i64 i1, .int .i64 i2, .int .i64 i3, .int .i64 i4, .int .i64 i5, .int .i64 i6, .int .i64 i7, vs] 28)) := (Below.refl _ _).alloc (Nat.le_refl _) _
  have ka := Blk.new w #[.int .i64 i0, .int .i64 i1, .int .i64 i2, .int .i64 i3, .int .i64 i4, .int .i64 i5, .int .i64 i6, .int .i64 i7, vs] 28
  have HKA := Lib.hid ka
  have HP := Lib.hid hp
  have HS := Lib.hid hs
  have hx := valid18 _ vp _ l _ (HO.out.below hB1) (hp.later hB1)
  dsimp only at hx
  obtain ⟨a, cap, rfl, hle, hcm⟩ := hs.len
  unfold maxLen at hcm
  clear hs hp ka
  unfold needN needE
  cases hv : validB l o with
  | false =>
    rw [hv] at hx
    clear hv
    go_enter Try.func16, Try.ntmps16
    go_wp2_with fail
    refine hx.mono ?_
    rintro e w1 ⟨rfl, hB2⟩
    go_wp2
    go_ret2
    exact ⟨rfl, hB1.trans (hB2.mono (by simp))⟩
  | true =>
    rw [hv] at hx
    obtain ⟨hcan, h1, h6, hin⟩ := valid_parts hv
    have HIN := Lib.hid (own_in hin)
    have HCN := Lib.hid hcan
    have HOL := Lib.hid (own_len o)
    clear hv hin hcan
    go_enter Try.func16, Try.ntmps16
    go_wp2_with fail
    refine hx.mono ?_
    rintro e w1 ⟨rfl, hB2⟩
    have hBw : Below w.heap.size w w1 := hB1.trans (hB2.mono (by simp))
    have kk := HKA.out.below hB2 (by simp)
    have c0 := kk.cell 0
    have c1 := kk.cell 1
    have c2 := kk.cell 2
    have c3 := kk.cell 3
    have c4 := kk.cell 4
    have c5 := kk.cell 5
    have c6 := kk.cell 6
    have c7 := kk.cell 7
    have c8 := kk.cell 8
    simp at c0 c1 c2 c3 c4 c5 c6 c7 c8
    clear kk
    have hO := own42 _ _ o.length w1 (HO.out.below hBw) (Nat.le_refl _) (by dsimp only; omega)
    dsimp only at hO
    rw [List.take_length] at hO
    go_wp2_with fail
    refine hO.mono ?_
    rintro e w2 ⟨v2, rfl, hI, hB3⟩
    have hBw2 := hBw.trans (hB3.mono hBw.size)
    have hM := most41 vp v2 l (ownV o) w2 (PassesAt.later HP.out hBw2) hI.ints HCN.out HIN.out (by have := HOL.out; omega)
    clear hO hI
    go_wp2_with fail
    refine hM.mono ?_
    rintro e w3 ⟨rfl, hB4⟩
    go_wp2
    go_ret2
    exact ⟨rfl, hBw2.trans (hB4.mono hBw2.size)⟩
theorem ret_tup2 {a b c d : Value} (h1 : a = c) (h2 : b = d) : Ending.returned (.tuple #[a, b]) = .returned (.tuple #[c, d]) := by rw [h1, h2]
set_option maxRecDepth 100000 in
set_option maxHeartbeats 1000000 in
theorem sure19 (v vp : Value) (od : OptD) (l : List Pass) (k : Int) (w : World) (ho : OptV w v od) (hp : PassesAt w vp l) :
    Calls Try.prog 19 #[v, vp, .int .i64 k] w fun e w' => e = .returned (.tuple #[.bool (sureB l od.slots k), .int .i64 (sureE l od.slots k)]) ∧ Below w.heap.size w w' := by
  have HO := Lib.hid ho
  obtain ⟨vs, rfl, hs⟩ := ho
  obtain ⟨⟨i0, i1, i2, i3, i4, i5, i6, i7⟩, o⟩ := od
  dsimp only at hs ⊢
  have hB1 : Below w.heap.size w (w.alloc (.cells #[.int .i64 i0, .int .i64 i1, .int .i64 i2, .int .i64 i3, .int .i64 i4, .int .i64 i5, .int .i64 i6, .int .i64 i7, vs] 28)) := (Below.refl _ _).alloc (Nat.le_refl _) _
  have ka := Blk.new w #[.int .i64 i0, .int .i64 i1, .int .i64 i2, .int .i64 i3, .int .i64 i4, .int .i64 i5, .int .i64 i6, .int .i64 i7, vs] 28
  have HKA := Lib.hid ka
  have HP := Lib.hid hp
  have HS := Lib.hid hs
  have hx := needed15 _ vp _ l _ (HO.out.below hB1) (hp.later hB1)
  have hL := limit45 k
  dsimp only at hx
  obtain ⟨a, cap, rfl, hle, hcm⟩ := hs.len
  unfold maxLen at hcm
  clear hs hp ka
  unfold sureB sureE okV
  unfold needN needE at hx
  cases hv : validB l o with
  | false =>
    rw [hv] at hx
    clear hv hL
    rw [if_neg (by decide), if_neg (by decide)] at hx
    go_enter Try.func19, Try.ntmps19
    go_wp2_with fail
    refine hx.mono ?_
    rintro e w1 ⟨rfl, hB2⟩
    go_wp2
    go_ret2
    exact ⟨rfl, hB1.trans (hB2.mono (by simp))⟩
  | true =>
    rw [hv] at hx
    clear hv
    rw [if_pos rfl, if_pos rfl] at hx
    generalize mostV l (ownV o) = m at hx ⊢
    cases hl : limB k with
    | false =>
      rw [hl] at hL
      clear hl
      have HL := Lib.hid hL
      clear hL
      go_enter Try.func19, Try.ntmps19
      go_wp2_with fail
      refine hx.mono ?_
      rintro e w1 ⟨rfl, hB2⟩
      go_wp2_with fail
      refine (HL.out _).mono ?_
      rintro e w2 ⟨rfl, rfl⟩
      go_wp2
      go_ret2
      exact ⟨rfl, hB1.trans (hB2.mono (by simp))⟩
    | true =>
      rw [hl] at hL
      clear hl
      have HL := Lib.hid hL
      clear hL
      go_enter Try.func19, Try.ntmps19
      go_wp2_with fail
      refine hx.mono ?_
      rintro e w1 ⟨rfl, hB2⟩
      go_wp2_with fail
      refine (HL.out _).mono ?_
      rintro e w2 ⟨rfl, rfl⟩
      go_wp2
      go_ret2
      exact ⟨rfl, hB1.trans (hB2.mono (by simp))⟩
set_option maxRecDepth 100000 in
set_option maxHeartbeats 1000000 in
theorem sure20 (v vp : Value) (od : OptD) (l : List Pass) (k : Int) (w : World) (ho : OptV w v od) (hp : PassesAt w vp l) :
    Calls Try.prog 20 #[v, vp, .int .i64 k] w fun e w' => e = .returned (.tuple #[.bool (sureB l od.slots k), .int .i64 (sureE l od.slots k)]) ∧ Below w.heap.size w w' := by
  have HO := Lib.hid ho
  obtain ⟨vs, rfl, hs⟩ := ho
  obtain ⟨⟨i0, i1, i2, i3, i4, i5, i6, i7⟩, o⟩ := od
  dsimp only at hs ⊢
  have hB1 : Below w.heap.size w (w.alloc (.cells #[.int .i64 i0, .int .i64 i1, .int .i64 i2, .int .i64 i3, .int .i64 i4, .int .i64 i5, .int .i64 i6, .int .i64 i7, vs] 28)) := (Below.refl _ _).alloc (Nat.le_refl _) _
  have ka := Blk.new w #[.int .i64 i0, .int .i64 i1, .int .i64 i2, .int .i64 i3, .int .i64 i4, .int .i64 i5, .int .i64 i6, .int .i64 i7, vs] 28
  have HKA := Lib.hid ka
  have HP := Lib.hid hp
  have HS := Lib.hid hs
  have hx := valid18 _ vp _ l _ (HO.out.below hB1) (hp.later hB1)
  have hL := limit46 k
  dsimp only at hx
  obtain ⟨a, cap, rfl, hle, hcm⟩ := hs.len
  unfold maxLen at hcm
  clear hs hp ka
  unfold sureB sureE okV
  cases hv : validB l o with
  | false =>
    rw [hv] at hx
    clear hv hL
    go_enter Try.func20, Try.ntmps20
    go_wp2_with fail
    refine hx.mono ?_
    rintro e w1 ⟨rfl, hB2⟩
    go_wp2
    go_ret2
    exact ⟨rfl, hB1.trans (hB2.mono (by simp))⟩
  | true =>
    rw [hv] at hx
    obtain ⟨hcan, h1, h6, hin⟩ := valid_parts hv
    have HIN := Lib.hid (own_in hin)
    have HCN := Lib.hid hcan
    have HOL := Lib.hid (own_len o)
    clear hv hin hcan
    cases hl : limB k with
    | false =>
      rw [hl] at hL
      clear hl
      have HL := Lib.hid hL
      clear hL
      go_enter Try.func20, Try.ntmps20
      go_wp2_with fail
      refine hx.mono ?_
      rintro e w1 ⟨rfl, hB2⟩
      go_wp2_with fail
      refine (HL.out _).mono ?_
      rintro e w2 ⟨rfl, rfl⟩
      go_wp2
      go_ret2
      exact ⟨rfl, hB1.trans (hB2.mono (by simp))⟩
    | true =>
      rw [hl] at hL
      clear hl
      have HL := Lib.hid hL
      clear hL
      go_enter Try.func20, Try.ntmps20
      go_wp2_with fail
      refine hx.mono ?_
      rintro e w1 ⟨rfl, hB2⟩
      go_wp2_with fail
      refine (HL.out _).mono ?_
      rintro e w2 ⟨rfl, rfl⟩
      have hBw : Below w.heap.size w w1 := hB1.trans (hB2.mono (by simp))
      have kk := HKA.out.below hB2 (by simp)
      have c0 := kk.cell 0
      have c1 := kk.cell 1
      have c2 := kk.cell 2
      have c3 := kk.cell 3
      have c4 := kk.cell 4
      have c5 := kk.cell 5
      have c6 := kk.cell 6
      have c7 := kk.cell 7
      have c8 := kk.cell 8
      simp at c0 c1 c2 c3 c4 c5 c6 c7 c8
      clear kk
      have hO := own42 _ _ o.length w1 (HO.out.below hBw) (Nat.le_refl _) (by dsimp only; omega)
      dsimp only at hO
      rw [List.take_length] at hO
      go_wp2_with fail
      refine hO.mono ?_
      rintro e w2 ⟨v2, rfl, hI, hB3⟩
      have hBw2 := hBw.trans (hB3.mono hBw.size)
      have hM := most41 vp v2 l (ownV o) w2 (PassesAt.later HP.out hBw2) hI.ints HCN.out HIN.out (by have := HOL.out; omega)
      clear hO hI
      go_wp2_with fail
      refine hM.mono ?_
      rintro e w3 ⟨rfl, hB4⟩
      go_wp2
      go_ret2
      exact ⟨rfl, hBw2.trans (hB4.mono hBw2.size)⟩
set_option maxRecDepth 100000 in
set_option maxHeartbeats 1000000 in
theorem fails21 (v vp : Value) (od : OptD) (l : List Pass) (k : Int) (w : World) (ho : OptV w v od) (hp : PassesAt w vp l) :
    Calls Try.prog 21 #[v, vp, .int .i64 k] w fun e w' => (∃ v', e = .returned (.tuple #[v', .bool (failB l od.slots k), .int .i64 (sureE l od.slots k)]) ∧ IntsAt w' v' (failL l od.slots k)) ∧ Below w.heap.size w w' := by
  have HO := Lib.hid ho
  obtain ⟨vs, rfl, hs⟩ := ho
  obtain ⟨⟨i0, i1, i2, i3, i4, i5, i6, i7⟩, o⟩ := od
  dsimp only at hs ⊢
  have hB1 : Below w.heap.size w (w.alloc (.cells #[.int .i64 i0, .int .i64 i1, .int .i64 i2, .int .i64 i3, .int .i64 i4, .int .i64 i5, .int .i64 i6, .int .i64 i7, vs] 28)) := (Below.refl _ _).alloc (Nat.le_refl _) _
  have ka := Blk.new w #[.int .i64 i0, .int .i64 i1, .int .i64 i2, .int .i64 i3, .int .i64 i4, .int .i64 i5, .int .i64 i6, .int .i64 i7, vs] 28
  have HKA := Lib.hid ka
  have HP := Lib.hid hp
  have HS := Lib.hid hs
  have hx := sure19 _ vp _ l k _ (HO.out.below hB1) (hp.later hB1)
  dsimp only at hx
  obtain ⟨a, cap, rfl, hle, hcm⟩ := hs.len
  unfold maxLen at hcm
  clear hs hp ka
  have HV6 := Lib.hid (fun h => (valid_parts (l := l) (o := o) h).2.2.1)
  unfold failL failB
  unfold sureB at hx
  obtain ⟨oe, hoe⟩ : ∃ e, sureE l o k = e := ⟨_, rfl⟩
  have HOE := Lib.hid hoe
  rw [hoe] at hx ⊢
  clear hoe
  unfold sureE at HOE
  cases hv : okV l o k with
  | false =>
    rw [hv] at hx HOE
    clear hv
    obtain rfl : (180 : Int) = oe := HOE.out
    rw [Bool.false_and] at hx ⊢
    go_enter Try.func21, Try.ntmps21
    go_wp2_with fail
    refine hx.mono ?_
    rintro e w1 ⟨rfl, hB2⟩
    go_wp2
    refine bodyPost_ret (v := .tuple #[.slice none 0 0, .bool false, .int .i64 180]) (by simp [results, Try.results21, go_sem]) rfl ⟨⟨_, rfl, none, 0, rfl, by simp, by unfold maxLen; omega, fun h => by simp at h⟩, hB1.trans (hB2.mono (by simp))⟩
  | true =>
    rw [hv] at hx HOE
    have H6 := Lib.hid (HV6.out (by unfold okV at hv; rw [Bool.and_eq_true] at hv; exact hv.1))
    clear hv HV6
    obtain rfl : (0 : Int) = oe := HOE.out
    rw [Bool.true_and] at hx ⊢
    clear HOE
    cases hd : decide (k < (mostV l (ownV o) : Nat)) with
    | true =>
      rw [hd] at hx
      clear hd
      go_enter Try.func21, Try.ntmps21
      go_wp2_with fail
      refine hx.mono ?_
      rintro e w1 ⟨rfl, hB2⟩
      go_wp2
      refine bodyPost_ret (v := .tuple #[.slice none 0 0, .bool false, .int .i64 0]) (by simp [results, Try.results21, go_sem]) rfl ⟨⟨_, rfl, none, 0, rfl, by simp, by unfold maxLen; omega, fun h => by simp at h⟩, hB1.trans (hB2.mono (by simp))⟩
    | false =>
      rw [hd] at hx
      clear hd
      go_enter Try.func21, Try.ntmps21
      go_wp2_with fail
      refine hx.mono ?_
      rintro e w1 ⟨rfl, hB2⟩
      have hBw : Below w.heap.size w w1 := hB1.trans (hB2.mono (by simp))
      have kk := HKA.out.below hB2 (by simp)
      have c8 := kk.cell 8
      simp at c8
      clear kk
      have hO := passesOf40 _ o w1 (SlotsAt.later HS.out hBw) (by have := H6.out; omega)
      go_wp2_with fail
      refine hO.mono ?_
      rintro e w2 ⟨v2, rfl, hI, hB3⟩
      have hBw2 := hBw.trans (hB3.mono hBw.size)
      have HI := Lib.hid hI.ints
      clear hO hI
      go_wp2
      refine bodyPost_ret (v := .tuple #[v2, .bool true, .int .i64 0]) (by simp [results, Try.results21, go_sem]) rfl ⟨⟨_, rfl, HI.out⟩, hBw2⟩
set_option maxRecDepth 100000 in
set_option maxHeartbeats 1000000 in
theorem fails22 (v vp : Value) (od : OptD) (l : List Pass) (k : Int) (w : World) (ho : OptV w v od) (hp : PassesAt w vp l) :
    Calls Try.prog 22 #[v, vp, .int .i64 k] w fun e w' => (∃ v', e = .returned (.tuple #[v', .bool (failB l od.slots k), .int .i64 (sureE l od.slots k)]) ∧ IntsAt w' v' (failL l od.slots k)) ∧ Below w.heap.size w w' := by
  have HO := Lib.hid ho
  obtain ⟨vs, rfl, hs⟩ := ho
  obtain ⟨⟨i0, i1, i2, i3, i4, i5, i6, i7⟩, o⟩ := od
  dsimp only at hs ⊢
  have hB1 : Below w.heap.size w (w.alloc (.cells #[.int .i64 i0, .int .i64 i1, .int .i64 i2, .int .i64 i3, .int .i64 i4, .int .i64 i5, .int .i64 i6, .int .i64 i7, vs] 28)) := (Below.refl _ _).alloc (Nat.le_refl _) _
  have ka := Blk.new w #[.int .i64 i0, .int .i64 i1, .int .i64 i2, .int .i64 i3, .int .i64 i4, .int .i64 i5, .int .i64 i6, .int .i64 i7, vs] 28
  have HKA := Lib.hid ka
  have HP := Lib.hid hp
  have HS := Lib.hid hs
  have hx := sure20 _ vp _ l k _ (HO.out.below hB1) (hp.later hB1)
  dsimp only at hx
  obtain ⟨a, cap, rfl, hle, hcm⟩ := hs.len
  unfold maxLen at hcm
  clear hs hp ka
  have HV6 := Lib.hid (fun h => (valid_parts (l := l) (o := o) h).2.2.1)
  unfold failL failB
  unfold sureB at hx
  obtain ⟨oe, hoe⟩ : ∃ e, sureE l o k = e := ⟨_, rfl⟩
  have HOE := Lib.hid hoe
  rw [hoe] at hx ⊢
  clear hoe
  unfold sureE at HOE
  cases hv : okV l o k with
  | false =>
    rw [hv] at hx HOE
    clear hv
    obtain rfl : (180 : Int) = oe := HOE.out
    rw [Bool.false_and] at hx ⊢
    go_enter Try.func22, Try.ntmps22
    go_wp2_with fail
    refine hx.mono ?_
    rintro e w1 ⟨rfl, hB2⟩
    go_wp2
    refine bodyPost_ret (v := .tuple #[.slice none 0 0, .bool false, .int .i64 180]) (by simp [results, Try.results22, go_sem]) rfl ⟨⟨_, rfl, none, 0, rfl, by simp, by unfold maxLen; omega, fun h => by simp at h⟩, hB1.trans (hB2.mono (by simp))⟩
  | true =>
    rw [hv] at hx HOE
    have H6 := Lib.hid (HV6.out (by unfold okV at hv; rw [Bool.and_eq_true] at hv; exact hv.1))
    clear hv HV6
    obtain rfl : (0 : Int) = oe := HOE.out
    rw [Bool.true_and] at hx ⊢
    clear HOE
    cases hd : decide (k < (mostV l (ownV o) : Nat)) with
    | true =>
      rw [hd] at hx
      clear hd
      go_enter Try.func22, Try.ntmps22
      go_wp2_with fail
      refine hx.mono ?_
      rintro e w1 ⟨rfl, hB2⟩
      go_wp2
      refine bodyPost_ret (v := .tuple #[.slice none 0 0, .bool false, .int .i64 0]) (by simp [results, Try.results22, go_sem]) rfl ⟨⟨_, rfl, none, 0, rfl, by simp, by unfold maxLen; omega, fun h => by simp at h⟩, hB1.trans (hB2.mono (by simp))⟩
    | false =>
      rw [hd] at hx
      clear hd
      go_enter Try.func22, Try.ntmps22
      go_wp2_with fail
      refine hx.mono ?_
      rintro e w1 ⟨rfl, hB2⟩
      have hBw : Below w.heap.size w w1 := hB1.trans (hB2.mono (by simp))
      have kk := HKA.out.below hB2 (by simp)
      have c0 := kk.cell 0
      have c1 := kk.cell 1
      have c2 := kk.cell 2
      have c3 := kk.cell 3
      have c4 := kk.cell 4
      have c5 := kk.cell 5
      have c6 := kk.cell 6
      have c7 := kk.cell 7
      have c8 := kk.cell 8
      simp at c0 c1 c2 c3 c4 c5 c6 c7 c8
      clear kk
      have hO := own42 _ _ o.length w1 (HO.out.below hBw) (Nat.le_refl _) (by have := H6.out; dsimp only; omega)
      dsimp only at hO
      rw [List.take_length] at hO
      go_wp2_with fail
      refine hO.mono ?_
      rintro e w2 ⟨v2, rfl, hI, hB3⟩
      have hBw2 := hBw.trans (hB3.mono hBw.size)
      have HI := Lib.hid hI.ints
      clear hO hI
      go_wp2
      refine bodyPost_ret (v := .tuple #[v2, .bool true, .int .i64 0]) (by simp [results, Try.results22, go_sem]) rfl ⟨⟨_, rfl, HI.out⟩, hBw2⟩
end Go.Proofs.Ytmajkagmcdlncaa
